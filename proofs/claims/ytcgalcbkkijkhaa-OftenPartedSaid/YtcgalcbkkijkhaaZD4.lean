/- Part 4 of the texts on which the proof rests. Conditions: none. -/
import Derived.Test.YtcgalcbkkijkhaaZD3
set_option linter.unusedVariables false
set_option linter.unusedSimpArgs false
set_option linter.unusedSectionVars false
section
set_option maxRecDepth 100000
set_option maxHeartbeats 16000000
namespace Go.Proofs.Ytcgalcbkkijkhaa
open Go Go.Nm
def zah (stage : Int) : (Int × Int) -> (Int × Span) -> M ((Int × Int) ⊕ Unit) := fun (s, s2) (x, x2) =>
  M.bind (zbB) fun (_ : Unit) =>
  M.bind (zbM x2) fun r2 =>
  M.bind (za9 stage r2) fun r3 =>
  bif r3 then (
  M.grd (decide ((-9223372036854775808 : Int) <= (s + 1)) && decide ((s + 1) <= (9223372036854775807 : Int))) <|
  M.bind (za8) fun (_ : Unit) =>
  M.bind (zaV x2) fun r4 =>
  M.bind (za9 stage r4) fun r5 =>
  bif r5 then (
  M.grd (decide ((-9223372036854775808 : Int) <= (s2 + 1)) && decide ((s2 + 1) <= (9223372036854775807 : Int))) <|
  M.pure (.inl (s + 1, s2 + 1)))
  else (
  M.pure (.inl (s + 1, s2))))
  else (
  M.bind (za8) fun (_ : Unit) =>
  M.bind (zaV x2) fun r4 =>
  M.bind (za9 stage r4) fun r5 =>
  bif r5 then (
  M.grd (decide ((-9223372036854775808 : Int) <= (s2 + 1)) && decide ((s2 + 1) <= (9223372036854775807 : Int))) <|
  M.pure (.inl (s, s2 + 1)))
  else (
  M.pure (.inl (s, s2))))
def zae (b_Years : List Yr) (b_Olds : List Old10) (b_First : Int) (b_Last : Int) (from_ : Int) (to_ : Int) (stage : Int) : M (Int × Int × Int) :=
  M.bind (zaG b_Years b_Olds b_First b_Last from_ to_ stage 0 2000) fun x_ => match x_ with
  | (.inl r1) => (
  bif r1 != 0 then (
  M.pure (0, 0, r1))
  else (
  M.fail))
  | (.inr (r02, r03, r04, r12)) => (
  bif r12 != 0 then (
  M.fail)
  else (
  M.bind (zaf b_Years b_Olds r02 r03 r04 from_ to_) fun (r00, r10) =>
  M.bind (zag (M.yl (zah stage)) (.inl (0, 0)) r00 r10 b_Years b_Olds r02 r03 r04) fun x_ => match x_ with
  | .inl (s, s2) => (
  M.pure (s, s2, 0))
  | .inr _ => M.fail))
theorem zao {R : List Chunk} {C_b_Years : Cells} {v_b_Years : Value} {C_b_Olds : Cells} {v_b_Olds : Value} (b_Years : List Yr) (b_Olds : List Old10) (b_First : Int) (b_Last : Int) (from_ : Int) (to_ : Int) (stage : Int) (hC_b_Years : Reads R C_b_Years) (hs_b_Years : Sl C_b_Years v_b_Years b_Years) (hC_b_Olds : Reads R C_b_Olds) (hs_b_Olds : Sl C_b_Olds v_b_Olds b_Olds) {r : (Int × Int × Int)} (hM : (zae b_Years b_Olds b_First b_Last from_ to_ stage).Ends r) (w : World) (H : St w w [] R) : Ret Try.prog 15 #[.agg #[v_b_Years, v_b_Olds, I b_First, I b_Last], I from_, I to_, I stage] w fun v w' => ∃ (y0 : Int) (y1 : Int) (y2 : Int), (y0, y1, y2) = r /\ v = .tuple #[.agg #[I y0, I y1], I y2] /\ St w w' [] R := by
 refine ret_of_WD Try.func15 rfl rfl rfl ?_
 replace H : St w w [cMk ([])] R := H.mk0
 have hl_b_Years := hs_b_Years.len_le
 have hl_b_Olds := hs_b_Olds.len_le
 unfold zae at hM
 refine WD.seq ?_
 refine WD.of ?_
 refine W.region rfl ?_
 refine t_box (v := .agg #[v_b_Years, v_b_Olds, I b_First, I b_Last]) (cs := [v_b_Years, v_b_Olds, I b_First, I b_Last]) H rfl rfl ?_
 intro b_1 w1z H
 refine t_alloc (cs := [I 0, I 0]) H Al35 rfl ?_
 intro b_2 w2z H
 refine s_val (x_as (v := I 0) rfl) ?_
 refine s_nil ?_
 refine WD.seq ?_
 refine WD.of ?_
 refine W.region rfl ?_
 refine s_val (x_ld (p := .pointer (some ⟨b_1, 0, none⟩)) (v := .agg #[v_b_Years, v_b_Olds, I b_First, I b_Last]) rfl (ldb_ag (ds := [v_b_Years, v_b_Olds, I b_First, I b_Last]) Ag26 Sz26 (H.blk (k := 1) rfl) rfl rfl)) ?_
 refine s_val (x_mv (v := I from_) rfl) ?_
 refine s_val (x_mv (v := I to_) rfl) ?_
 refine s_val (x_mv (v := I stage) rfl) ?_
 obtain ⟨r4z, hx3z, hM⟩ := M.e_bind hM
 refine s_call cf52 [.agg #[v_b_Years, v_b_Olds, I b_First, I b_Last], I from_, I to_, I stage, I 0, I 2000] rfl (zb5 b_Years b_Olds b_First b_Last from_ to_ stage 0 2000 (hC_b_Years.app _) hs_b_Years (hC_b_Olds.app _) hs_b_Olds hx3z _ (St.give (T := [cBlk b_2 [I 0, I 0] 35, cBlk b_1 [v_b_Years, v_b_Olds, I b_First, I b_Last] 26, cMk ([])]) H rfl)) ?_
 rintro vq w5z (⟨r1, hr6z, hvq, H2_⟩ | ⟨r02, r03, r04, r12, nb0_3, nb1_4, hr7z, hvq, H2_⟩)
 ·subst hr6z
  subst vq
  try dsimp only at hM
  replace H : St w w5z [cBlk b_2 [I 0, I 0] 35, cBlk b_1 [v_b_Years, v_b_Olds, I b_First, I b_Last] 26, cMk ([])] R := H.back H2_ rfl
  clear H2_
  refine s_val (x_mv (v := .tuple #[.pointer none, I r1]) rfl) ?_
  refine s_val (x_ext (vs := [.pointer none, I r1]) (v := .pointer none) rfl rfl) ?_
  refine s_val (x_ext (vs := [.pointer none, I r1]) (v := I r1) rfl rfl) ?_
  refine s_val (x_as (v := .pointer none) rfl) ?_
  refine s_val (x_as (v := I r1) rfl) ?_
  refine s_nil ?_
  refine WD.seq ?_
  refine WD.seq ?_
  refine WD.of ?_
  refine W.region rfl ?_
  refine s_val (x_mv (v := I r1) rfl) ?_
  refine s_val (x_cmp (kd := .i64) (a := r1) (b := 0) (r := r1 != 0) rfl rfl rfl) ?_
  refine s_nil ?_
  refine WD.cond (r1 != 0) rfl (fun c8z => ?_) (fun c8z => ?_)
  ·replace hM := M.e_t hM c8z
   simp only [decide_eq_true_eq, decide_eq_false_iff_not, beq_iff_eq, bne_iff_ne, beq_eq_false_iff_ne, bne_eq_false_iff_eq, ne_eq, Decidable.not_not] at c8z
   refine WD.seq ?_
   refine WD.of ?_
   refine W.region rfl ?_
   refine s_val (x_bld (ps := []) (zs := [I 0, I 0]) (L' := [I 0, I 0]) rfl Try.underlying35 Al35 rfl (Bd35 Try.underlying35) (.nil)) ?_
   refine s_val (x_mv (v := I r1) rfl) ?_
   refine t_st (k := 0) (b := b_2) (off := 0) (cs := [I 0, I 0]) (vs := [I 0, I 0]) (cs' := [I 0, I 0]) (v := .agg #[I 0, I 0]) (L' := [cBlk b_2 [I 0, I 0] 35, cBlk b_1 [v_b_Years, v_b_Olds, I b_First, I b_Last] 26, cMk ([])]) H rfl rfl rfl Sz35 rfl rfl rfl rfl rfl rfl ?_
   intro w9z H
   refine s_val (x_as (v := I r1) rfl) ?_
   refine s_nil ?_
   refine WD.of ?_
   refine W.ret ?_
   refine bodyD_r (H.pick [2, 0, 1] (by decide) rfl) ?_
   intro w10z H
   replace H : St w w10z [cBlk b_2 [I 0, I 0] 35, cBlk b_1 [v_b_Years, v_b_Olds, I b_First, I b_Last] 26] R := H
   have hb11z := (H.blk (k := 0) rfl)
   have hr_ := M.e_pure hM
   exact ⟨_, (resE_ofn (vs := [.agg #[I 0, I 0], I r1]) rfl rfl (.cell (v := .agg #[I 0, I 0]) rfl (run_loadVar_ag (ds := [I 0, I 0]) Ag35 Sz35 hb11z rfl rfl) <| .tmp (v := I r1) rfl <| .nil)), ⟨0, 0, r1, hr_, rfl, (H.pick [] (by decide) rfl)⟩⟩
  replace hM := M.e_f hM c8z
  exact (M.e_fail hM).elim
 subst hr7z
 subst vq
 try dsimp only at hM
 replace H : St w w5z [cBlk nb0_3 [v_b_Years, v_b_Olds, I r02, I r03, .map (some nb1_4)] 126, cMl I encSp nb1_4 r04, cBlk b_2 [I 0, I 0] 35, cBlk b_1 [v_b_Years, v_b_Olds, I b_First, I b_Last] 26, cMk ([])] R := H.back H2_ rfl
 clear H2_
 refine s_val (x_mv (v := .tuple #[.pointer (some ⟨nb0_3, 0, none⟩), I r12]) rfl) ?_
 refine s_val (x_ext (vs := [.pointer (some ⟨nb0_3, 0, none⟩), I r12]) (v := .pointer (some ⟨nb0_3, 0, none⟩)) rfl rfl) ?_
 refine s_val (x_ext (vs := [.pointer (some ⟨nb0_3, 0, none⟩), I r12]) (v := I r12) rfl rfl) ?_
 refine s_val (x_as (v := .pointer (some ⟨nb0_3, 0, none⟩)) rfl) ?_
 refine s_val (x_as (v := I r12) rfl) ?_
 refine s_nil ?_
 refine WD.seq ?_
 refine WD.seq ?_
 refine WD.of ?_
 refine W.region rfl ?_
 refine s_val (x_mv (v := I r12) rfl) ?_
 refine s_val (x_cmp (kd := .i64) (a := r12) (b := 0) (r := r12 != 0) rfl rfl rfl) ?_
 refine s_nil ?_
 refine WD.cond (r12 != 0) rfl (fun c12z => ?_) (fun c12z => ?_)
 ·replace hM := M.e_t hM c12z
  exact (M.e_fail hM).elim
 replace hM := M.e_f hM c12z
 simp only [decide_eq_true_eq, decide_eq_false_iff_not, beq_iff_eq, bne_iff_ne, beq_eq_false_iff_ne, bne_eq_false_iff_eq, ne_eq, Decidable.not_not] at c12z
 refine WD.of ?_
 refine W.skip ?_
 refine WD.seq ?_
 refine WD.of ?_
 refine W.region rfl ?_
 refine s_val (x_mv (v := I stage) rfl) ?_
 refine s_val (x_bld (ps := [(0, I stage)]) (zs := [I 0]) (L' := [I stage]) rfl Try.underlying107 Al107 rfl (Bd107 Try.underlying107) (.cons (cs := [I stage]) rfl rfl rfl rfl rfl <| .nil)) ?_
 refine s_val (x_mf (fs := [.agg #[I stage]]) (cs := []) rfl rfl) ?_
 refine t_alloc (cs := [.nilFunc]) H Al105 rfl ?_
 intro b_5 w13z H
 refine t_st (k := 0) (b := b_5) (off := 0) (cs := [.nilFunc]) (vs := [.func (.func 53) #[.agg #[I stage]] #[]]) (cs' := [.func (.func 53) #[.agg #[I stage]] #[]]) (v := .func (.func 53) #[.agg #[I stage]] #[]) (L' := [cBlk b_5 [.func (.func 53) #[.agg #[I stage]] #[]] 105, cBlk nb0_3 [v_b_Years, v_b_Olds, I r02, I r03, .map (some nb1_4)] 126, cMl I encSp nb1_4 r04, cBlk b_2 [I 0, I 0] 35, cBlk b_1 [v_b_Years, v_b_Olds, I b_First, I b_Last] 26, cMk ([])]) H rfl rfl rfl Sz105 rfl rfl rfl rfl rfl rfl ?_
 intro w14z H
 refine s_nil ?_
 refine WD.seq ?_
 refine WD.of ?_
 refine W.region rfl ?_
 refine t_alloc (cs := [I 0, I 0]) H Al35 rfl ?_
 intro b_6 w15z H
 refine s_nil ?_
 refine WD.seq ?_
 refine WD.seq ?_
 refine WD.of ?_
 refine W.region rfl ?_
 refine s_val (x_mv (v := .pointer (some ⟨nb0_3, 0, none⟩)) rfl) ?_
 refine s_val (x_mv (v := I from_) rfl) ?_
 refine s_val (x_mv (v := I to_) rfl) ?_
 obtain ⟨r17z, hx16z, hM⟩ := M.e_bind hM
 refine s_call cf54 [.pointer (some ⟨nb0_3, 0, none⟩), I from_, I to_] rfl (zbb b_Years b_Olds r02 r03 r04 from_ to_ (hC_b_Years.app _) hs_b_Years (hC_b_Olds.app _) hs_b_Olds (Has.here (k := 3) rfl) (Has.here (k := 2) rfl) hx16z _ (St.give (T := [cBlk b_6 [I 0, I 0] 35, cBlk b_5 [.func (.func 53) #[.agg #[I stage]] #[]] 105, cBlk nb0_3 [v_b_Years, v_b_Olds, I r02, I r03, .map (some nb1_4)] 126, cMl I encSp nb1_4 r04, cBlk b_2 [I 0, I 0] 35, cBlk b_1 [v_b_Years, v_b_Olds, I b_First, I b_Last] 26, cMk ([])]) H rfl)) ?_
 rintro vq w18z ⟨r00, r10, nb0_7, nb1_8, nb2_9, hr19z, hvq, H2_⟩
 subst hr19z
 subst vq
 try dsimp only at hM
 replace H : St w w18z [cBlk nb0_7 [I r00] 3, cBlk nb1_8 [I r10] 3, cBlk nb2_9 [.pointer (some ⟨nb0_3, 0, none⟩)] 102, cBlk b_6 [I 0, I 0] 35, cBlk b_5 [.func (.func 53) #[.agg #[I stage]] #[]] 105, cBlk nb0_3 [v_b_Years, v_b_Olds, I r02, I r03, .map (some nb1_4)] 126, cMl I encSp nb1_4 r04, cBlk b_2 [I 0, I 0] 35, cBlk b_1 [v_b_Years, v_b_Olds, I b_First, I b_Last] 26, cMk ([])] R := H.back H2_ rfl
 clear H2_
 refine s_nil ?_
 refine WD.block ?_
 obtain ⟨t20z, hx21z, hM⟩ := M.e_bind hM
 refine WD.range (L := [cBlk b_6 [I 0, I 0] 35, cBlk nb0_7 [I r00] 3, cBlk nb1_8 [I r10] 3, cBlk nb2_9 [.pointer (some ⟨nb0_3, 0, none⟩)] 102, cBlk b_5 [.func (.func 53) #[.agg #[I stage]] #[]] 105, cBlk nb0_3 [v_b_Years, v_b_Olds, I r02, I r03, .map (some nb1_4)] 126, cMl I encSp nb1_4 r04, cBlk b_2 [I 0, I 0] 35, cBlk b_1 [v_b_Years, v_b_Olds, I b_First, I b_Last] 26]) [.pointer (some ⟨nb0_7, 0, none⟩), .pointer (some ⟨nb1_8, 0, none⟩), .pointer (some ⟨nb2_9, 0, none⟩)] (H.pick [9, 3, 0, 1, 2, 4, 5, 6, 7, 8] (by decide) rfl) rfl cf90 ?_
 intro l22z D23z r24z w25z hr26z H
 have hYC : YieldC Try.prog ([cMk (D23z :: ([])), cBlk nb0_7 [I r00] 3, cBlk nb1_8 [I r10] 3, cBlk nb2_9 [.pointer (some ⟨nb0_3, 0, none⟩)] 102, cBlk b_5 [.func (.func 53) #[.agg #[I stage]] #[]] 105, cBlk nb0_3 [v_b_Years, v_b_Olds, I r02, I r03, .map (some nb1_4)] 126, cMl I encSp nb1_4 r04, cBlk b_2 [I 0, I 0] 35, cBlk b_1 [v_b_Years, v_b_Olds, I b_First, I b_Last] 26] ++ R) arISpan (yJ l22z r24z (fun (s, s2) Ls_ => Ls_ = [cBlk b_6 [I s, I s2] 35]) (fun (_ : Unit) _ => False) (fun _ => .ret)) (.func (.yield l22z) #[] #[]) (M.yl (zah stage)) := by
  refine YieldC.mk2 hr26z (fun (s, s2) Ls_ => Ls_ = [cBlk b_6 [I s, I s2] 35]) (fun (_ : Unit) _ => False) (fun _ => .ret) (zah stage) (by rintro ⟨s, s2⟩ _ h_; obtain ⟨rfl⟩ := h_; rfl) (fun _ _ h_ => h_.elim) rfl (arISpan_len rfl) ?_
  intro C_ vs_ x_ hA_
  obtain ⟨x, x2⟩ := x_
  obtain rfl := hA_
  intro w R hR_ Ls_ s_ r hY_ hM H
  obtain ⟨s, s2⟩ := s_
  obtain ⟨rfl⟩ := hY_
  replace H : St w w [cBlk b_6 [I s, I s2] 35, cMk (D23z :: ([])), cBlk nb0_7 [I r00] 3, cBlk nb1_8 [I r10] 3, cBlk nb2_9 [.pointer (some ⟨nb0_3, 0, none⟩)] 102, cBlk b_5 [.func (.func 53) #[.agg #[I stage]] #[]] 105, cBlk nb0_3 [v_b_Years, v_b_Olds, I r02, I r03, .map (some nb1_4)] 126, cMl I encSp nb1_4 r04, cBlk b_2 [I 0, I 0] 35, cBlk b_1 [v_b_Years, v_b_Olds, I b_First, I b_Last] 26] R := H
  refine W.region rfl ?_
  refine t_alloc (cs := [I 0, I 0]) H Al35 rfl ?_
  intro b_10 w27z H
  refine t_st (k := 0) (b := b_10) (off := 0) (cs := [I 0, I 0]) (vs := [I x2.lo, I x2.hi]) (cs' := [I x2.lo, I x2.hi]) (v := .agg #[I x2.lo, I x2.hi]) (L' := [cBlk b_10 [I x2.lo, I x2.hi] 35, cBlk b_6 [I s, I s2] 35, cMk (D23z :: ([])), cBlk nb0_7 [I r00] 3, cBlk nb1_8 [I r10] 3, cBlk nb2_9 [.pointer (some ⟨nb0_3, 0, none⟩)] 102, cBlk b_5 [.func (.func 53) #[.agg #[I stage]] #[]] 105, cBlk nb0_3 [v_b_Years, v_b_Olds, I r02, I r03, .map (some nb1_4)] 126, cMl I encSp nb1_4 r04, cBlk b_2 [I 0, I 0] 35, cBlk b_1 [v_b_Years, v_b_Olds, I b_First, I b_Last] 26]) H rfl rfl rfl Sz35 rfl rfl rfl rfl rfl rfl ?_
  intro w28z H
  refine s_nil ?_
  refine ⟨rfl, [cBlk b_10 [I x2.lo, I x2.hi] 35], H.pick [0, 1, 2, 3, 4, 5, 6, 7, 8, 9, 10] (by decide) rfl, ?_⟩
  clear H hR_
  intro w R hR_ H
  replace hC_b_Years := hC_b_Years.sub hR_
  replace hC_b_Olds := hC_b_Olds.sub hR_
  replace hM : (zah stage (s, s2) (x, x2)).Ends r := hM
  simp only [zah] at hM
  replace H : St w w [cBlk b_10 [I x2.lo, I x2.hi] 35, cBlk b_6 [I s, I s2] 35, cMk (D23z :: ([])), cBlk nb0_7 [I r00] 3, cBlk nb1_8 [I r10] 3, cBlk nb2_9 [.pointer (some ⟨nb0_3, 0, none⟩)] 102, cBlk b_5 [.func (.func 53) #[.agg #[I stage]] #[]] 105, cBlk nb0_3 [v_b_Years, v_b_Olds, I r02, I r03, .map (some nb1_4)] 126, cMl I encSp nb1_4 r04, cBlk b_2 [I 0, I 0] 35, cBlk b_1 [v_b_Years, v_b_Olds, I b_First, I b_Last] 26] R := H
  refine W.block ?_
  refine W.seq ?_
  refine W.seq ?_
  refine W.draw (fun W => St w W [cBlk b_10 [I x2.lo, I x2.hi] 35, cBlk b_6 [I s, I s2] 35, cMk (D23z :: ([])), cBlk nb0_7 [I r00] 3, cBlk nb1_8 [I r10] 3, cBlk nb2_9 [.pointer (some ⟨nb0_3, 0, none⟩)] 102, cBlk b_5 [.func (.func 53) #[.agg #[I stage]] #[]] 105, cBlk nb0_3 [v_b_Years, v_b_Olds, I r02, I r03, .map (some nb1_4)] 126, cMl I encSp nb1_4 r04, cBlk b_2 [I 0, I 0] 35, cBlk b_1 [v_b_Years, v_b_Olds, I b_First, I b_Last] 26] R) [(0, true), (3, true), (1, false), (2, true), (4, false), (5, false)] mixed (by decide +kernel) rfl ?_
  intro w29z hx_
  replace H : St w w29z [cBlk b_10 [I x2.lo, I x2.hi] 35, cBlk b_6 [I s, I s2] 35, cMk (D23z :: ([])), cBlk nb0_7 [I r00] 3, cBlk nb1_8 [I r10] 3, cBlk nb2_9 [.pointer (some ⟨nb0_3, 0, none⟩)] 102, cBlk b_5 [.func (.func 53) #[.agg #[I stage]] #[]] 105, cBlk nb0_3 [v_b_Years, v_b_Olds, I r02, I r03, .map (some nb1_4)] 126, cMl I encSp nb1_4 r04, cBlk b_2 [I 0, I 0] 35, cBlk b_1 [v_b_Years, v_b_Olds, I b_First, I b_Last] 26] R := H.ext hx_
  clear hx_
  refine ⟨(H.pick [0, 1, 2, 3, 4, 5, 6, 7, 8, 9, 10] (by decide) rfl), ?_⟩
  refine d_q rfl (fun w' H => x_ld (p := .pointer (some ⟨b_5, 0, none⟩)) (v := .func (.func 53) #[.agg #[I stage]] #[]) rfl (ldb_sc Sc105 (H.blk (k := 6) rfl) rfl)) ?_
  refine d_q rfl (fun w' H => x_ld (p := .pointer (some ⟨b_10, 0, none⟩)) (v := .agg #[I x2.lo, I x2.hi]) rfl (ldb_ag (ds := [I x2.lo, I x2.hi]) Ag35 Sz35 (H.blk (k := 0) rfl) rfl rfl)) ?_
  refine d_l rfl ?_
  obtain ⟨r31z, hx30z, hM⟩ := M.e_bind hM
  refine s_call cf55 [] rfl (zb9 hx30z _ (St.give (T := [cBlk b_10 [I x2.lo, I x2.hi] 35, cBlk b_6 [I s, I s2] 35, cMk (D23z :: ([])), cBlk nb0_7 [I r00] 3, cBlk nb1_8 [I r10] 3, cBlk nb2_9 [.pointer (some ⟨nb0_3, 0, none⟩)] 102, cBlk b_5 [.func (.func 53) #[.agg #[I stage]] #[]] 105, cBlk nb0_3 [v_b_Years, v_b_Olds, I r02, I r03, .map (some nb1_4)] 126, cMl I encSp nb1_4 r04, cBlk b_2 [I 0, I 0] 35, cBlk b_1 [v_b_Years, v_b_Olds, I b_First, I b_Last] 26]) H rfl)) ?_
  rintro vq w32z ⟨hr33z, hvq, H2_⟩
  subst hr33z
  subst vq
  try dsimp only at hM
  replace H : St w w32z [cBlk b_10 [I x2.lo, I x2.hi] 35, cBlk b_6 [I s, I s2] 35, cMk (D23z :: ([])), cBlk nb0_7 [I r00] 3, cBlk nb1_8 [I r10] 3, cBlk nb2_9 [.pointer (some ⟨nb0_3, 0, none⟩)] 102, cBlk b_5 [.func (.func 53) #[.agg #[I stage]] #[]] 105, cBlk nb0_3 [v_b_Years, v_b_Olds, I r02, I r03, .map (some nb1_4)] 126, cMl I encSp nb1_4 r04, cBlk b_2 [I 0, I 0] 35, cBlk b_1 [v_b_Years, v_b_Olds, I b_First, I b_Last] 26] R := H.back H2_ rfl
  clear H2_
  refine s_nil ⟨(H.pick [0, 1, 2, 3, 4, 5, 6, 7, 8, 9, 10] (by decide) rfl), ?_⟩
  refine d_q rfl (fun w' H => x_fd (cs := [.func (.func 91) #[] #[]]) (v := .func (.func 91) #[] #[]) Fd113_0 Sc111 rfl rfl) ?_
  refine d_l rfl ?_
  obtain ⟨r35z, hx34z, hM⟩ := M.e_bind hM
  refine s_callv (f := 91) rfl cf91 [.agg #[I x2.lo, I x2.hi]] rfl (zbn x2 hx34z _ (St.give (T := [cBlk b_10 [I x2.lo, I x2.hi] 35, cBlk b_6 [I s, I s2] 35, cMk (D23z :: ([])), cBlk nb0_7 [I r00] 3, cBlk nb1_8 [I r10] 3, cBlk nb2_9 [.pointer (some ⟨nb0_3, 0, none⟩)] 102, cBlk b_5 [.func (.func 53) #[.agg #[I stage]] #[]] 105, cBlk nb0_3 [v_b_Years, v_b_Olds, I r02, I r03, .map (some nb1_4)] 126, cMl I encSp nb1_4 r04, cBlk b_2 [I 0, I 0] 35, cBlk b_1 [v_b_Years, v_b_Olds, I b_First, I b_Last] 26]) H rfl)) ?_
  rintro vq w36z ⟨r2, hr37z, hvq, H2_⟩
  subst hr37z
  subst vq
  try dsimp only at hM
  replace H : St w w36z [cBlk b_10 [I x2.lo, I x2.hi] 35, cBlk b_6 [I s, I s2] 35, cMk (D23z :: ([])), cBlk nb0_7 [I r00] 3, cBlk nb1_8 [I r10] 3, cBlk nb2_9 [.pointer (some ⟨nb0_3, 0, none⟩)] 102, cBlk b_5 [.func (.func 53) #[.agg #[I stage]] #[]] 105, cBlk nb0_3 [v_b_Years, v_b_Olds, I r02, I r03, .map (some nb1_4)] 126, cMl I encSp nb1_4 r04, cBlk b_2 [I 0, I 0] 35, cBlk b_1 [v_b_Years, v_b_Olds, I b_First, I b_Last] 26] R := H.back H2_ rfl
  clear H2_
  refine s_nil ⟨(H.pick [0, 1, 2, 3, 4, 5, 6, 7, 8, 9, 10] (by decide) rfl), ?_⟩
  refine d_l rfl ?_
  obtain ⟨r39z, hx38z, hM⟩ := M.e_bind hM
  refine s_callm (f := 53) (fs := [.agg #[I stage]]) rfl cf53 [I r2] rfl (zbE stage r2 hx38z _ (St.give (T := [cBlk b_10 [I x2.lo, I x2.hi] 35, cBlk b_6 [I s, I s2] 35, cMk (D23z :: ([])), cBlk nb0_7 [I r00] 3, cBlk nb1_8 [I r10] 3, cBlk nb2_9 [.pointer (some ⟨nb0_3, 0, none⟩)] 102, cBlk b_5 [.func (.func 53) #[.agg #[I stage]] #[]] 105, cBlk nb0_3 [v_b_Years, v_b_Olds, I r02, I r03, .map (some nb1_4)] 126, cMl I encSp nb1_4 r04, cBlk b_2 [I 0, I 0] 35, cBlk b_1 [v_b_Years, v_b_Olds, I b_First, I b_Last] 26]) H rfl)) ?_
  rintro vq w40z ⟨r3, hr41z, hvq, H2_⟩
  subst hr41z
  subst vq
  try dsimp only at hM
  replace H : St w w40z [cBlk b_10 [I x2.lo, I x2.hi] 35, cBlk b_6 [I s, I s2] 35, cMk (D23z :: ([])), cBlk nb0_7 [I r00] 3, cBlk nb1_8 [I r10] 3, cBlk nb2_9 [.pointer (some ⟨nb0_3, 0, none⟩)] 102, cBlk b_5 [.func (.func 53) #[.agg #[I stage]] #[]] 105, cBlk nb0_3 [v_b_Years, v_b_Olds, I r02, I r03, .map (some nb1_4)] 126, cMl I encSp nb1_4 r04, cBlk b_2 [I 0, I 0] 35, cBlk b_1 [v_b_Years, v_b_Olds, I b_First, I b_Last] 26] R := H.back H2_ rfl
  clear H2_
  refine s_nil ⟨(H.pick [0, 1, 2, 3, 4, 5, 6, 7, 8, 9, 10] (by decide) rfl), ?_⟩
  refine d_nil ?_
  refine W.cond r3 rfl (fun c42z => ?_) (fun c42z => ?_)
  ·replace hM := M.e_t hM c42z
   refine W.region rfl ?_
   refine s_val (x_fa (a := .pointer (some ⟨b_6, 0, none⟩)) (v := .pointer (some ⟨b_6, 0, none⟩)) rfl (fa_blk (o := 0) Fd35_0 Sz3)) ?_
   refine s_val (x_ld (p := .pointer (some ⟨b_6, 0, none⟩)) (v := I s) rfl (ldb_sc Sc3 (H.blk (k := 1) rfl) rfl)) ?_
   obtain ⟨sd43z, hM⟩ := M.e_grd hM
   simp only [Bool.and_eq_true, decide_eq_true_eq] at sd43z
   refine s_val (x_ari (a := s) (b := 1) (r := s + 1) rfl rfl rfl (by omega)) ?_
   refine s_val (x_fa (a := .pointer (some ⟨b_6, 0, none⟩)) (v := .pointer (some ⟨b_6, 0, none⟩)) rfl (fa_blk (o := 0) Fd35_0 Sz3)) ?_
   refine t_st (k := 1) (b := b_6) (off := 0) (cs := [I s, I s2]) (vs := [I (s + 1)]) (cs' := [I (s + 1), I s2]) (v := I (s + 1)) (L' := [cBlk b_10 [I x2.lo, I x2.hi] 35, cBlk b_6 [I (s + 1), I s2] 35, cMk (D23z :: ([])), cBlk nb0_7 [I r00] 3, cBlk nb1_8 [I r10] 3, cBlk nb2_9 [.pointer (some ⟨nb0_3, 0, none⟩)] 102, cBlk b_5 [.func (.func 53) #[.agg #[I stage]] #[]] 105, cBlk nb0_3 [v_b_Years, v_b_Olds, I r02, I r03, .map (some nb1_4)] 126, cMl I encSp nb1_4 r04, cBlk b_2 [I 0, I 0] 35, cBlk b_1 [v_b_Years, v_b_Olds, I b_First, I b_Last] 26]) H rfl rfl rfl Sz3 rfl rfl rfl rfl rfl rfl ?_
   intro w44z H
   refine s_nil ?_
   refine W.seq ?_
   refine W.draw (fun W => St w W [cBlk b_10 [I x2.lo, I x2.hi] 35, cBlk b_6 [I (s + 1), I s2] 35, cMk (D23z :: ([])), cBlk nb0_7 [I r00] 3, cBlk nb1_8 [I r10] 3, cBlk nb2_9 [.pointer (some ⟨nb0_3, 0, none⟩)] 102, cBlk b_5 [.func (.func 53) #[.agg #[I stage]] #[]] 105, cBlk nb0_3 [v_b_Years, v_b_Olds, I r02, I r03, .map (some nb1_4)] 126, cMl I encSp nb1_4 r04, cBlk b_2 [I 0, I 0] 35, cBlk b_1 [v_b_Years, v_b_Olds, I b_First, I b_Last] 26] R) [(0, true), (3, true), (1, false), (2, true), (4, false), (5, false)] mixed (by decide +kernel) rfl ?_
   intro w45z hx_
   replace H : St w w45z [cBlk b_10 [I x2.lo, I x2.hi] 35, cBlk b_6 [I (s + 1), I s2] 35, cMk (D23z :: ([])), cBlk nb0_7 [I r00] 3, cBlk nb1_8 [I r10] 3, cBlk nb2_9 [.pointer (some ⟨nb0_3, 0, none⟩)] 102, cBlk b_5 [.func (.func 53) #[.agg #[I stage]] #[]] 105, cBlk nb0_3 [v_b_Years, v_b_Olds, I r02, I r03, .map (some nb1_4)] 126, cMl I encSp nb1_4 r04, cBlk b_2 [I 0, I 0] 35, cBlk b_1 [v_b_Years, v_b_Olds, I b_First, I b_Last] 26] R := H.ext hx_
   clear hx_
   refine ⟨(H.pick [0, 1, 2, 3, 4, 5, 6, 7, 8, 9, 10] (by decide) rfl), ?_⟩
   refine d_q rfl (fun w' H => x_ld (p := .pointer (some ⟨b_5, 0, none⟩)) (v := .func (.func 53) #[.agg #[I stage]] #[]) rfl (ldb_sc Sc105 (H.blk (k := 6) rfl) rfl)) ?_
   refine d_q rfl (fun w' H => x_ld (p := .pointer (some ⟨b_10, 0, none⟩)) (v := .agg #[I x2.lo, I x2.hi]) rfl (ldb_ag (ds := [I x2.lo, I x2.hi]) Ag35 Sz35 (H.blk (k := 0) rfl) rfl rfl)) ?_
   refine d_l rfl ?_
   obtain ⟨r47z, hx46z, hM⟩ := M.e_bind hM
   refine s_call cf56 [] rfl (zbI hx46z _ (St.give (T := [cBlk b_10 [I x2.lo, I x2.hi] 35, cBlk b_6 [I (s + 1), I s2] 35, cMk (D23z :: ([])), cBlk nb0_7 [I r00] 3, cBlk nb1_8 [I r10] 3, cBlk nb2_9 [.pointer (some ⟨nb0_3, 0, none⟩)] 102, cBlk b_5 [.func (.func 53) #[.agg #[I stage]] #[]] 105, cBlk nb0_3 [v_b_Years, v_b_Olds, I r02, I r03, .map (some nb1_4)] 126, cMl I encSp nb1_4 r04, cBlk b_2 [I 0, I 0] 35, cBlk b_1 [v_b_Years, v_b_Olds, I b_First, I b_Last] 26]) H rfl)) ?_
   rintro vq w48z ⟨hr49z, hvq, H2_⟩
   subst hr49z
   subst vq
   try dsimp only at hM
   replace H : St w w48z [cBlk b_10 [I x2.lo, I x2.hi] 35, cBlk b_6 [I (s + 1), I s2] 35, cMk (D23z :: ([])), cBlk nb0_7 [I r00] 3, cBlk nb1_8 [I r10] 3, cBlk nb2_9 [.pointer (some ⟨nb0_3, 0, none⟩)] 102, cBlk b_5 [.func (.func 53) #[.agg #[I stage]] #[]] 105, cBlk nb0_3 [v_b_Years, v_b_Olds, I r02, I r03, .map (some nb1_4)] 126, cMl I encSp nb1_4 r04, cBlk b_2 [I 0, I 0] 35, cBlk b_1 [v_b_Years, v_b_Olds, I b_First, I b_Last] 26] R := H.back H2_ rfl
   clear H2_
   refine s_nil ⟨(H.pick [0, 1, 2, 3, 4, 5, 6, 7, 8, 9, 10] (by decide) rfl), ?_⟩
   refine d_q rfl (fun w' H => x_fd (cs := [.func (.func 92) #[] #[]]) (v := .func (.func 92) #[] #[]) Fd113_0 Sc111 rfl rfl) ?_
   refine d_l rfl ?_
   obtain ⟨r51z, hx50z, hM⟩ := M.e_bind hM
   refine s_callv (f := 92) rfl cf92 [.agg #[I x2.lo, I x2.hi]] rfl (za3 x2 hx50z _ (St.give (T := [cBlk b_10 [I x2.lo, I x2.hi] 35, cBlk b_6 [I (s + 1), I s2] 35, cMk (D23z :: ([])), cBlk nb0_7 [I r00] 3, cBlk nb1_8 [I r10] 3, cBlk nb2_9 [.pointer (some ⟨nb0_3, 0, none⟩)] 102, cBlk b_5 [.func (.func 53) #[.agg #[I stage]] #[]] 105, cBlk nb0_3 [v_b_Years, v_b_Olds, I r02, I r03, .map (some nb1_4)] 126, cMl I encSp nb1_4 r04, cBlk b_2 [I 0, I 0] 35, cBlk b_1 [v_b_Years, v_b_Olds, I b_First, I b_Last] 26]) H rfl)) ?_
   rintro vq w52z ⟨r4, hr53z, hvq, H2_⟩
   subst hr53z
   subst vq
   try dsimp only at hM
   replace H : St w w52z [cBlk b_10 [I x2.lo, I x2.hi] 35, cBlk b_6 [I (s + 1), I s2] 35, cMk (D23z :: ([])), cBlk nb0_7 [I r00] 3, cBlk nb1_8 [I r10] 3, cBlk nb2_9 [.pointer (some ⟨nb0_3, 0, none⟩)] 102, cBlk b_5 [.func (.func 53) #[.agg #[I stage]] #[]] 105, cBlk nb0_3 [v_b_Years, v_b_Olds, I r02, I r03, .map (some nb1_4)] 126, cMl I encSp nb1_4 r04, cBlk b_2 [I 0, I 0] 35, cBlk b_1 [v_b_Years, v_b_Olds, I b_First, I b_Last] 26] R := H.back H2_ rfl
   clear H2_
   refine s_nil ⟨(H.pick [0, 1, 2, 3, 4, 5, 6, 7, 8, 9, 10] (by decide) rfl), ?_⟩
   refine d_l rfl ?_
   obtain ⟨r55z, hx54z, hM⟩ := M.e_bind hM
   refine s_callm (f := 53) (fs := [.agg #[I stage]]) rfl cf53 [I r4] rfl (zbE stage r4 hx54z _ (St.give (T := [cBlk b_10 [I x2.lo, I x2.hi] 35, cBlk b_6 [I (s + 1), I s2] 35, cMk (D23z :: ([])), cBlk nb0_7 [I r00] 3, cBlk nb1_8 [I r10] 3, cBlk nb2_9 [.pointer (some ⟨nb0_3, 0, none⟩)] 102, cBlk b_5 [.func (.func 53) #[.agg #[I stage]] #[]] 105, cBlk nb0_3 [v_b_Years, v_b_Olds, I r02, I r03, .map (some nb1_4)] 126, cMl I encSp nb1_4 r04, cBlk b_2 [I 0, I 0] 35, cBlk b_1 [v_b_Years, v_b_Olds, I b_First, I b_Last] 26]) H rfl)) ?_
   rintro vq w56z ⟨r5, hr57z, hvq, H2_⟩
   subst hr57z
   subst vq
   try dsimp only at hM
   replace H : St w w56z [cBlk b_10 [I x2.lo, I x2.hi] 35, cBlk b_6 [I (s + 1), I s2] 35, cMk (D23z :: ([])), cBlk nb0_7 [I r00] 3, cBlk nb1_8 [I r10] 3, cBlk nb2_9 [.pointer (some ⟨nb0_3, 0, none⟩)] 102, cBlk b_5 [.func (.func 53) #[.agg #[I stage]] #[]] 105, cBlk nb0_3 [v_b_Years, v_b_Olds, I r02, I r03, .map (some nb1_4)] 126, cMl I encSp nb1_4 r04, cBlk b_2 [I 0, I 0] 35, cBlk b_1 [v_b_Years, v_b_Olds, I b_First, I b_Last] 26] R := H.back H2_ rfl
   clear H2_
   refine s_nil ⟨(H.pick [0, 1, 2, 3, 4, 5, 6, 7, 8, 9, 10] (by decide) rfl), ?_⟩
   refine d_nil ?_
   refine W.cond r5 rfl (fun c58z => ?_) (fun c58z => ?_)
   ·replace hM := M.e_t hM c58z
    refine W.region rfl ?_
    refine s_val (x_fa (a := .pointer (some ⟨b_6, 0, none⟩)) (v := .pointer (some ⟨b_6, 1, none⟩)) rfl (fa_blk (o := 0) Fd35_1 Sz3)) ?_
    refine s_val (x_ld (p := .pointer (some ⟨b_6, 1, none⟩)) (v := I s2) rfl (ldb_sc Sc3 (H.blk (k := 1) rfl) rfl)) ?_
    obtain ⟨sd59z, hM⟩ := M.e_grd hM
    simp only [Bool.and_eq_true, decide_eq_true_eq] at sd59z
    refine s_val (x_ari (a := s2) (b := 1) (r := s2 + 1) rfl rfl rfl (by omega)) ?_
    refine s_val (x_fa (a := .pointer (some ⟨b_6, 0, none⟩)) (v := .pointer (some ⟨b_6, 1, none⟩)) rfl (fa_blk (o := 0) Fd35_1 Sz3)) ?_
    refine t_st (k := 1) (b := b_6) (off := 1) (cs := [I (s + 1), I s2]) (vs := [I (s2 + 1)]) (cs' := [I (s + 1), I (s2 + 1)]) (v := I (s2 + 1)) (L' := [cBlk b_10 [I x2.lo, I x2.hi] 35, cBlk b_6 [I (s + 1), I (s2 + 1)] 35, cMk (D23z :: ([])), cBlk nb0_7 [I r00] 3, cBlk nb1_8 [I r10] 3, cBlk nb2_9 [.pointer (some ⟨nb0_3, 0, none⟩)] 102, cBlk b_5 [.func (.func 53) #[.agg #[I stage]] #[]] 105, cBlk nb0_3 [v_b_Years, v_b_Olds, I r02, I r03, .map (some nb1_4)] 126, cMl I encSp nb1_4 r04, cBlk b_2 [I 0, I 0] 35, cBlk b_1 [v_b_Years, v_b_Olds, I b_First, I b_Last] 26]) H rfl rfl rfl Sz3 rfl rfl rfl rfl rfl rfl ?_
    intro w60z H
    refine s_nil ?_
    exact ⟨(s + 1, s2 + 1), [cBlk b_6 [I (s + 1), I (s2 + 1)] 35], (M.e_pure hM).symm, rfl, H.pick [1, 2, 3, 4, 5, 6, 7, 8, 9, 10] (by decide) rfl⟩
   replace hM := M.e_f hM c58z
   refine W.skip ?_
   exact ⟨(s + 1, s2), [cBlk b_6 [I (s + 1), I s2] 35], (M.e_pure hM).symm, rfl, H.pick [1, 2, 3, 4, 5, 6, 7, 8, 9, 10] (by decide) rfl⟩
  replace hM := M.e_f hM c42z
  refine W.skip ?_
  refine W.seq ?_
  refine W.draw (fun W => St w W [cBlk b_10 [I x2.lo, I x2.hi] 35, cBlk b_6 [I s, I s2] 35, cMk (D23z :: ([])), cBlk nb0_7 [I r00] 3, cBlk nb1_8 [I r10] 3, cBlk nb2_9 [.pointer (some ⟨nb0_3, 0, none⟩)] 102, cBlk b_5 [.func (.func 53) #[.agg #[I stage]] #[]] 105, cBlk nb0_3 [v_b_Years, v_b_Olds, I r02, I r03, .map (some nb1_4)] 126, cMl I encSp nb1_4 r04, cBlk b_2 [I 0, I 0] 35, cBlk b_1 [v_b_Years, v_b_Olds, I b_First, I b_Last] 26] R) [(0, true), (3, true), (1, false), (2, true), (4, false), (5, false)] mixed (by decide +kernel) rfl ?_
  intro w61z hx_
  replace H : St w w61z [cBlk b_10 [I x2.lo, I x2.hi] 35, cBlk b_6 [I s, I s2] 35, cMk (D23z :: ([])), cBlk nb0_7 [I r00] 3, cBlk nb1_8 [I r10] 3, cBlk nb2_9 [.pointer (some ⟨nb0_3, 0, none⟩)] 102, cBlk b_5 [.func (.func 53) #[.agg #[I stage]] #[]] 105, cBlk nb0_3 [v_b_Years, v_b_Olds, I r02, I r03, .map (some nb1_4)] 126, cMl I encSp nb1_4 r04, cBlk b_2 [I 0, I 0] 35, cBlk b_1 [v_b_Years, v_b_Olds, I b_First, I b_Last] 26] R := H.ext hx_
  clear hx_
  refine ⟨(H.pick [0, 1, 2, 3, 4, 5, 6, 7, 8, 9, 10] (by decide) rfl), ?_⟩
  refine d_q rfl (fun w' H => x_ld (p := .pointer (some ⟨b_5, 0, none⟩)) (v := .func (.func 53) #[.agg #[I stage]] #[]) rfl (ldb_sc Sc105 (H.blk (k := 6) rfl) rfl)) ?_
  refine d_q rfl (fun w' H => x_ld (p := .pointer (some ⟨b_10, 0, none⟩)) (v := .agg #[I x2.lo, I x2.hi]) rfl (ldb_ag (ds := [I x2.lo, I x2.hi]) Ag35 Sz35 (H.blk (k := 0) rfl) rfl rfl)) ?_
  refine d_l rfl ?_
  obtain ⟨r63z, hx62z, hM⟩ := M.e_bind hM
  refine s_call cf56 [] rfl (zbI hx62z _ (St.give (T := [cBlk b_10 [I x2.lo, I x2.hi] 35, cBlk b_6 [I s, I s2] 35, cMk (D23z :: ([])), cBlk nb0_7 [I r00] 3, cBlk nb1_8 [I r10] 3, cBlk nb2_9 [.pointer (some ⟨nb0_3, 0, none⟩)] 102, cBlk b_5 [.func (.func 53) #[.agg #[I stage]] #[]] 105, cBlk nb0_3 [v_b_Years, v_b_Olds, I r02, I r03, .map (some nb1_4)] 126, cMl I encSp nb1_4 r04, cBlk b_2 [I 0, I 0] 35, cBlk b_1 [v_b_Years, v_b_Olds, I b_First, I b_Last] 26]) H rfl)) ?_
  rintro vq w64z ⟨hr65z, hvq, H2_⟩
  subst hr65z
  subst vq
  try dsimp only at hM
  replace H : St w w64z [cBlk b_10 [I x2.lo, I x2.hi] 35, cBlk b_6 [I s, I s2] 35, cMk (D23z :: ([])), cBlk nb0_7 [I r00] 3, cBlk nb1_8 [I r10] 3, cBlk nb2_9 [.pointer (some ⟨nb0_3, 0, none⟩)] 102, cBlk b_5 [.func (.func 53) #[.agg #[I stage]] #[]] 105, cBlk nb0_3 [v_b_Years, v_b_Olds, I r02, I r03, .map (some nb1_4)] 126, cMl I encSp nb1_4 r04, cBlk b_2 [I 0, I 0] 35, cBlk b_1 [v_b_Years, v_b_Olds, I b_First, I b_Last] 26] R := H.back H2_ rfl
  clear H2_
  refine s_nil ⟨(H.pick [0, 1, 2, 3, 4, 5, 6, 7, 8, 9, 10] (by decide) rfl), ?_⟩
  refine d_q rfl (fun w' H => x_fd (cs := [.func (.func 92) #[] #[]]) (v := .func (.func 92) #[] #[]) Fd113_0 Sc111 rfl rfl) ?_
  refine d_l rfl ?_
  obtain ⟨r67z, hx66z, hM⟩ := M.e_bind hM
  refine s_callv (f := 92) rfl cf92 [.agg #[I x2.lo, I x2.hi]] rfl (za3 x2 hx66z _ (St.give (T := [cBlk b_10 [I x2.lo, I x2.hi] 35, cBlk b_6 [I s, I s2] 35, cMk (D23z :: ([])), cBlk nb0_7 [I r00] 3, cBlk nb1_8 [I r10] 3, cBlk nb2_9 [.pointer (some ⟨nb0_3, 0, none⟩)] 102, cBlk b_5 [.func (.func 53) #[.agg #[I stage]] #[]] 105, cBlk nb0_3 [v_b_Years, v_b_Olds, I r02, I r03, .map (some nb1_4)] 126, cMl I encSp nb1_4 r04, cBlk b_2 [I 0, I 0] 35, cBlk b_1 [v_b_Years, v_b_Olds, I b_First, I b_Last] 26]) H rfl)) ?_
  rintro vq w68z ⟨r4, hr69z, hvq, H2_⟩
  subst hr69z
  subst vq
  try dsimp only at hM
  replace H : St w w68z [cBlk b_10 [I x2.lo, I x2.hi] 35, cBlk b_6 [I s, I s2] 35, cMk (D23z :: ([])), cBlk nb0_7 [I r00] 3, cBlk nb1_8 [I r10] 3, cBlk nb2_9 [.pointer (some ⟨nb0_3, 0, none⟩)] 102, cBlk b_5 [.func (.func 53) #[.agg #[I stage]] #[]] 105, cBlk nb0_3 [v_b_Years, v_b_Olds, I r02, I r03, .map (some nb1_4)] 126, cMl I encSp nb1_4 r04, cBlk b_2 [I 0, I 0] 35, cBlk b_1 [v_b_Years, v_b_Olds, I b_First, I b_Last] 26] R := H.back H2_ rfl
  clear H2_
  refine s_nil ⟨(H.pick [0, 1, 2, 3, 4, 5, 6, 7, 8, 9, 10] (by decide) rfl), ?_⟩
  refine d_l rfl ?_
  obtain ⟨r71z, hx70z, hM⟩ := M.e_bind hM
  refine s_callm (f := 53) (fs := [.agg #[I stage]]) rfl cf53 [I r4] rfl (zbE stage r4 hx70z _ (St.give (T := [cBlk b_10 [I x2.lo, I x2.hi] 35, cBlk b_6 [I s, I s2] 35, cMk (D23z :: ([])), cBlk nb0_7 [I r00] 3, cBlk nb1_8 [I r10] 3, cBlk nb2_9 [.pointer (some ⟨nb0_3, 0, none⟩)] 102, cBlk b_5 [.func (.func 53) #[.agg #[I stage]] #[]] 105, cBlk nb0_3 [v_b_Years, v_b_Olds, I r02, I r03, .map (some nb1_4)] 126, cMl I encSp nb1_4 r04, cBlk b_2 [I 0, I 0] 35, cBlk b_1 [v_b_Years, v_b_Olds, I b_First, I b_Last] 26]) H rfl)) ?_
  rintro vq w72z ⟨r5, hr73z, hvq, H2_⟩
  subst hr73z
  subst vq
  try dsimp only at hM
  replace H : St w w72z [cBlk b_10 [I x2.lo, I x2.hi] 35, cBlk b_6 [I s, I s2] 35, cMk (D23z :: ([])), cBlk nb0_7 [I r00] 3, cBlk nb1_8 [I r10] 3, cBlk nb2_9 [.pointer (some ⟨nb0_3, 0, none⟩)] 102, cBlk b_5 [.func (.func 53) #[.agg #[I stage]] #[]] 105, cBlk nb0_3 [v_b_Years, v_b_Olds, I r02, I r03, .map (some nb1_4)] 126, cMl I encSp nb1_4 r04, cBlk b_2 [I 0, I 0] 35, cBlk b_1 [v_b_Years, v_b_Olds, I b_First, I b_Last] 26] R := H.back H2_ rfl
  clear H2_
  refine s_nil ⟨(H.pick [0, 1, 2, 3, 4, 5, 6, 7, 8, 9, 10] (by decide) rfl), ?_⟩
  refine d_nil ?_
  refine W.cond r5 rfl (fun c74z => ?_) (fun c74z => ?_)
  ·replace hM := M.e_t hM c74z
   refine W.region rfl ?_
   refine s_val (x_fa (a := .pointer (some ⟨b_6, 0, none⟩)) (v := .pointer (some ⟨b_6, 1, none⟩)) rfl (fa_blk (o := 0) Fd35_1 Sz3)) ?_
   refine s_val (x_ld (p := .pointer (some ⟨b_6, 1, none⟩)) (v := I s2) rfl (ldb_sc Sc3 (H.blk (k := 1) rfl) rfl)) ?_
   obtain ⟨sd75z, hM⟩ := M.e_grd hM
   simp only [Bool.and_eq_true, decide_eq_true_eq] at sd75z
   refine s_val (x_ari (a := s2) (b := 1) (r := s2 + 1) rfl rfl rfl (by omega)) ?_
   refine s_val (x_fa (a := .pointer (some ⟨b_6, 0, none⟩)) (v := .pointer (some ⟨b_6, 1, none⟩)) rfl (fa_blk (o := 0) Fd35_1 Sz3)) ?_
   refine t_st (k := 1) (b := b_6) (off := 1) (cs := [I s, I s2]) (vs := [I (s2 + 1)]) (cs' := [I s, I (s2 + 1)]) (v := I (s2 + 1)) (L' := [cBlk b_10 [I x2.lo, I x2.hi] 35, cBlk b_6 [I s, I (s2 + 1)] 35, cMk (D23z :: ([])), cBlk nb0_7 [I r00] 3, cBlk nb1_8 [I r10] 3, cBlk nb2_9 [.pointer (some ⟨nb0_3, 0, none⟩)] 102, cBlk b_5 [.func (.func 53) #[.agg #[I stage]] #[]] 105, cBlk nb0_3 [v_b_Years, v_b_Olds, I r02, I r03, .map (some nb1_4)] 126, cMl I encSp nb1_4 r04, cBlk b_2 [I 0, I 0] 35, cBlk b_1 [v_b_Years, v_b_Olds, I b_First, I b_Last] 26]) H rfl rfl rfl Sz3 rfl rfl rfl rfl rfl rfl ?_
   intro w76z H
   refine s_nil ?_
   exact ⟨(s, s2 + 1), [cBlk b_6 [I s, I (s2 + 1)] 35], (M.e_pure hM).symm, rfl, H.pick [1, 2, 3, 4, 5, 6, 7, 8, 9, 10] (by decide) rfl⟩
  replace hM := M.e_f hM c74z
  refine W.skip ?_
  exact ⟨(s, s2), [cBlk b_6 [I s, I s2] 35], (M.e_pure hM).symm, rfl, H.pick [1, 2, 3, 4, 5, 6, 7, 8, 9, 10] (by decide) rfl⟩
 replace H : St w w25z (cAll (cObj l22z (.loop r24z) :: [cBlk b_6 [I 0, I 0] 35]) :: [cMk (D23z :: ([])), cBlk nb0_7 [I r00] 3, cBlk nb1_8 [I r10] 3, cBlk nb2_9 [.pointer (some ⟨nb0_3, 0, none⟩)] 102, cBlk b_5 [.func (.func 53) #[.agg #[I stage]] #[]] 105, cBlk nb0_3 [v_b_Years, v_b_Olds, I r02, I r03, .map (some nb1_4)] 126, cMl I encSp nb1_4 r04, cBlk b_2 [I 0, I 0] 35, cBlk b_1 [v_b_Years, v_b_Olds, I b_First, I b_Last] 26]) R := St.bundleB (A := cObj l22z (.loop r24z) :: [cBlk b_6 [I 0, I 0] 35]) (T := [cMk (D23z :: ([])), cBlk nb0_7 [I r00] 3, cBlk nb1_8 [I r10] 3, cBlk nb2_9 [.pointer (some ⟨nb0_3, 0, none⟩)] 102, cBlk b_5 [.func (.func 53) #[.agg #[I stage]] #[]] 105, cBlk nb0_3 [v_b_Years, v_b_Olds, I r02, I r03, .map (some nb1_4)] 126, cMl I encSp nb1_4 r04, cBlk b_2 [I 0, I 0] 35, cBlk b_1 [v_b_Years, v_b_Olds, I b_First, I b_Last] 26]) rfl (H.pick [0, 2, 1, 3, 4, 5, 6, 7, 8, 9, 10] (by decide) rfl)
 refine (zbf (M.yl (zah stage)) (.inl (0, 0)) r00 r10 b_Years b_Olds r02 r03 r04 hYC ⟨_, rfl, rfl⟩ (Has.here (k := 1) rfl) (Has.here (k := 2) rfl) (hC_b_Years.app _) hs_b_Years (hC_b_Olds.app _) hs_b_Olds (Has.here (k := 6) rfl) (Has.here (k := 5) rfl) (Has.here (k := 3) rfl) hx21z _ (St.give (A := [cAll (cObj l22z (.loop r24z) :: [cBlk b_6 [I 0, I 0] 35])]) (T := [cMk (D23z :: ([])), cBlk nb0_7 [I r00] 3, cBlk nb1_8 [I r10] 3, cBlk nb2_9 [.pointer (some ⟨nb0_3, 0, none⟩)] 102, cBlk b_5 [.func (.func 53) #[.agg #[I stage]] #[]] 105, cBlk nb0_3 [v_b_Years, v_b_Olds, I r02, I r03, .map (some nb1_4)] 126, cMl I encSp nb1_4 r04, cBlk b_2 [I 0, I 0] 35, cBlk b_1 [v_b_Years, v_b_Olds, I b_First, I b_Last] 26]) H rfl)).mono ?_
 rintro vq w77z ⟨t81z, Ls79z, hq82z, hvq, H2_, hY80z⟩
 subst hq82z
 replace H := H.back H2_ rfl
 clear H2_ hYC
 rcases t81z with ⟨s, s2⟩ | _
 ·try dsimp only at hM
  obtain ⟨_, rfl, rfl⟩ := hY80z
  refine ⟨_, [cBlk b_6 [I s, I s2] 35, cBlk nb0_7 [I r00] 3, cBlk nb1_8 [I r10] 3, cBlk nb2_9 [.pointer (some ⟨nb0_3, 0, none⟩)] 102, cBlk b_5 [.func (.func 53) #[.agg #[I stage]] #[]] 105, cBlk nb0_3 [v_b_Years, v_b_Olds, I r02, I r03, .map (some nb1_4)] 126, cMl I encSp nb1_4 r04, cBlk b_2 [I 0, I 0] 35, cBlk b_1 [v_b_Years, v_b_Olds, I b_First, I b_Last] 26], H.unbundle.pick [0, 2, 1, 3, 4, 5, 6, 7, 8, 9, 10] (by decide) rfl, hr26z.nb, ?_⟩
  intro w78z H
  rw [hr26z.pd]
  replace H : St w w78z [cMk (D23z :: ([])), cBlk b_6 [I s, I s2] 35, cBlk nb0_7 [I r00] 3, cBlk nb1_8 [I r10] 3, cBlk nb2_9 [.pointer (some ⟨nb0_3, 0, none⟩)] 102, cBlk b_5 [.func (.func 53) #[.agg #[I stage]] #[]] 105, cBlk nb0_3 [v_b_Years, v_b_Olds, I r02, I r03, .map (some nb1_4)] 126, cMl I encSp nb1_4 r04, cBlk b_2 [I 0, I 0] 35, cBlk b_1 [v_b_Years, v_b_Olds, I b_First, I b_Last] 26] R := H
  try simp only []
  refine WD.seq ?_
  refine WD.of ?_
  refine W.region rfl ?_
  refine s_val (x_ld (p := .pointer (some ⟨b_6, 0, none⟩)) (v := .agg #[I s, I s2]) rfl (ldb_ag (ds := [I s, I s2]) Ag35 Sz35 (H.blk (k := 1) rfl) rfl rfl)) ?_
  refine t_st (k := 8) (b := b_2) (off := 0) (cs := [I 0, I 0]) (vs := [I s, I s2]) (cs' := [I s, I s2]) (v := .agg #[I s, I s2]) (L' := [cMk (D23z :: ([])), cBlk b_6 [I s, I s2] 35, cBlk nb0_7 [I r00] 3, cBlk nb1_8 [I r10] 3, cBlk nb2_9 [.pointer (some ⟨nb0_3, 0, none⟩)] 102, cBlk b_5 [.func (.func 53) #[.agg #[I stage]] #[]] 105, cBlk nb0_3 [v_b_Years, v_b_Olds, I r02, I r03, .map (some nb1_4)] 126, cMl I encSp nb1_4 r04, cBlk b_2 [I s, I s2] 35, cBlk b_1 [v_b_Years, v_b_Olds, I b_First, I b_Last] 26]) H rfl rfl rfl Sz35 rfl rfl rfl rfl rfl rfl ?_
  intro w83z H
  refine s_val (x_as (v := I 0) rfl) ?_
  refine s_nil ?_
  refine WD.of ?_
  refine W.ret ?_
  refine bodyD_r (H.pick [0, 1, 2, 3, 4, 5, 6, 7, 8, 9] (by decide) rfl) ?_
  intro w84z H
  replace H : St w w84z [cBlk b_6 [I s, I s2] 35, cBlk nb0_7 [I r00] 3, cBlk nb1_8 [I r10] 3, cBlk nb2_9 [.pointer (some ⟨nb0_3, 0, none⟩)] 102, cBlk b_5 [.func (.func 53) #[.agg #[I stage]] #[]] 105, cBlk nb0_3 [v_b_Years, v_b_Olds, I r02, I r03, .map (some nb1_4)] 126, cMl I encSp nb1_4 r04, cBlk b_2 [I s, I s2] 35, cBlk b_1 [v_b_Years, v_b_Olds, I b_First, I b_Last] 26] R := H
  have hb85z := (H.blk (k := 7) rfl)
  have hr_ := M.e_pure hM
  exact ⟨_, (resE_ofn (vs := [.agg #[I s, I s2], I 0]) rfl rfl (.cell (v := .agg #[I s, I s2]) rfl (run_loadVar_ag (ds := [I s, I s2]) Ag35 Sz35 hb85z rfl rfl) <| .tmp (v := I 0) rfl <| .nil)), ⟨s, s2, 0, hr_, rfl, (H.pick [] (by decide) rfl)⟩⟩
 obtain ⟨_, _, h_⟩ := hY80z; exact h_.elim

def zbz : (Int × Int) -> M ((Int × Int) ⊕ Int) := fun (a, b) =>
  bif b != 0 then (
  M.grd (decide ((0 : Int) <= a) && decide ((0 : Int) < b)) <|
  M.pure (.inl (b, a % b)))
  else (
  M.pure (.inr a))
def zbC (n : Int) (of_ : Int) : M (Int × Int) :=
  M.bind (M.iter (zbz) (n, of_)) fun a2 =>
  M.grd (decide (0 <= n) && decide (n <= (9223372036854775807 : Int)) && decide ((0 : Int) < a2)) <|
  M.grd (decide (0 <= of_) && decide (of_ <= (9223372036854775807 : Int)) && decide ((0 : Int) < a2)) <|
  M.pure ((n / a2), (of_ / a2))
theorem zbT {R : List Chunk}  (n : Int) (of_ : Int)  {r : (Int × Int)} (hM : (zbC n of_).Ends r) (w : World) (H : St w w [] R) : Ret Try.prog 69 #[I n, I of_] w fun v w' => ∃ (y0 : Int) (y1 : Int), (y0, y1) = r /\ v = .agg #[I y0, I y1] /\ St w w' [] R := by
 refine ret_of_W Try.func69 rfl rfl rfl ?_
 refine W.seq ?_
 refine W.region rfl ?_
 refine t_alloc (cs := [I 0, I 0]) H Al63 rfl ?_
 intro b_1 w1z H
 refine s_nil ?_
 refine W.seq ?_
 refine W.region rfl ?_
 refine s_val (x_mv (v := I n) rfl) ?_
 refine s_val (x_mv (v := I of_) rfl) ?_
 refine s_val (x_as (v := I n) rfl) ?_
 refine s_val (x_as (v := I of_) rfl) ?_
 refine s_nil ?_
 refine W.seq ?_
 refine W.block ?_
 obtain ⟨ex2z, hi3z, hk4z⟩ := M.e_bind hM
 obtain ⟨m0_, hi3z⟩ := M.e_iter hi3z
 refine W.loop (fun m σ W => ∃ (a : Int) (b : Int) (ρ : Env), σ = upds ρ [(0, I n), (1, I of_), (4, .pointer (some ⟨b_1, 0, none⟩)), (5, I a), (6, I b)] /\ M.iterN (zbz) m (a, b) = some ex2z /\ St w W [cBlk b_1 [I 0, I 0] 63] R) ?_ ?_
 ·exact ⟨_, n, of_, _, upds_of _ _ ⟨rfl, rfl, rfl, rfl, rfl, trivial⟩, hi3z, H⟩
 rintro m7z σ w5z ⟨a, b, ρ, rfl, hI6z, H⟩
 obtain ⟨m8z, lt9z, x10z, hM, hN11z⟩ := M.e_iterN hI6z
 simp only [zbz] at hM
 clear hI6z
 refine W.seq ?_
 refine W.seq ?_
 refine W.region rfl ?_
 refine s_val (x_mv (v := I b) rfl) ?_
 refine s_val (x_cmp (kd := .i64) (a := b) (b := 0) (r := b != 0) rfl rfl rfl) ?_
 refine s_nil ?_
 refine W.cond (b != 0) rfl (fun c12z => ?_) (fun c12z => ?_)
 ·replace hM := M.e_t hM c12z
  simp only [decide_eq_true_eq, decide_eq_false_iff_not, beq_iff_eq, bne_iff_ne, beq_eq_false_iff_ne, bne_eq_false_iff_eq, ne_eq, Decidable.not_not] at c12z
  refine W.skip ?_
  refine W.block ?_
  refine W.draw (fun W => St w W [cBlk b_1 [I 0, I 0] 63] R) [(0, true), (1, true), (2, true), (3, true), (4, true), (5, true)] mixed (by decide +kernel) rfl ?_
  intro w13z hx_
  replace H : St w w13z [cBlk b_1 [I 0, I 0] 63] R := H.ext hx_
  clear hx_
  refine ⟨(H.pick [0] (by decide) rfl), ?_⟩
  refine d_q rfl (fun w' H => x_mv (v := I b) rfl) ?_
  refine d_q rfl (fun w' H => x_mv (v := I a) rfl) ?_
  refine d_q rfl (fun w' H => x_mv (v := I b) rfl) ?_
  obtain ⟨sd14z, hM⟩ := M.e_grd hM
  simp only [Bool.and_eq_true, decide_eq_true_eq] at sd14z
  refine d_q rfl (fun w' H => x_rem' (a := a) (b := b) rfl rfl (by omega)) ?_
  refine d_q rfl (fun w' H => x_as (v := I b) rfl) ?_
  refine d_q rfl (fun w' H => x_as (v := I (a % b)) rfl) ?_
  refine d_nil ?_
  exact ⟨m8z, lt9z, b, a % b, _, upds_of _ _ ⟨rfl, rfl, rfl, rfl, rfl, trivial⟩, M.e_inl hM hN11z, H⟩
 replace hM := M.e_f hM c12z
 simp only [decide_eq_true_eq, decide_eq_false_iff_not, beq_iff_eq, bne_iff_ne, beq_eq_false_iff_ne, bne_eq_false_iff_eq, ne_eq, Decidable.not_not] at c12z
 refine W.exit ?_
 have hX15z := M.e_inr hM hN11z
 subst hX15z
 replace hM := hk4z
 try dsimp only at hM
 refine W.seq ?_
 refine W.draw (fun W => St w W [] R) [(0, true), (1, true), (2, true), (3, true), (4, true), (5, true), (6, true), (7, false)] mixed (by decide +kernel) rfl ?_
 intro w16z hx_
 replace H : St w w16z [cBlk b_1 [I 0, I 0] 63] R := H.ext hx_
 clear hx_
 refine ⟨(H.pick [] (by decide) rfl), ?_⟩
 refine d_q rfl (fun w' H => x_mv (v := I n) rfl) ?_
 refine d_q rfl (fun w' H => x_mv (v := I a) rfl) ?_
 obtain ⟨sd17z, hM⟩ := M.e_grd hM
 simp only [Bool.and_eq_true, decide_eq_true_eq] at sd17z
 refine d_q rfl (fun w' H => x_quo (a := n) (b := a) rfl rfl (by omega)) ?_
 refine d_q rfl (fun w' H => x_mv (v := I of_) rfl) ?_
 refine d_q rfl (fun w' H => x_mv (v := I a) rfl) ?_
 obtain ⟨sd18z, hM⟩ := M.e_grd hM
 simp only [Bool.and_eq_true, decide_eq_true_eq] at sd18z
 refine d_q rfl (fun w' H => x_quo (a := of_) (b := a) rfl rfl (by omega)) ?_
 refine d_q rfl (fun w' H => x_bld (ps := [(0, I (n / a)), (1, I (of_ / a))]) (zs := [I 0, I 0]) (L' := [I (n / a), I (of_ / a)]) rfl Try.underlying63 Al63 rfl (Bd63 Try.underlying63) (.cons (cs := [I (n / a)]) rfl rfl rfl rfl rfl <| .cons (cs := [I (of_ / a)]) rfl rfl rfl rfl rfl <| .nil)) ?_
 refine d_l rfl ?_
 refine t_st (k := 0) (b := b_1) (off := 0) (cs := [I 0, I 0]) (vs := [I (n / a), I (of_ / a)]) (cs' := [I (n / a), I (of_ / a)]) (v := .agg #[I (n / a), I (of_ / a)]) (L' := [cBlk b_1 [I (n / a), I (of_ / a)] 63]) H rfl rfl rfl Sz63 rfl rfl rfl rfl rfl rfl ?_
 intro w19z H
 refine s_nil ⟨(H.pick [] (by decide) rfl), ?_⟩
 refine d_nil ?_
 refine W.ret ?_
 have hb20z := (H.blk (k := 0) rfl)
 have hr_ := M.e_pure hM
 exact ⟨_, (resE_of1 (v := .agg #[I (n / a), I (of_ / a)]) rfl (.cell (v := .agg #[I (n / a), I (of_ / a)]) rfl (run_loadVar_ag (ds := [I (n / a), I (of_ / a)]) Ag63 Sz63 hb20z rfl rfl) <| .nil)), ⟨(n / a), (of_ / a), hr_, rfl, (H.pick [] (by decide) rfl)⟩⟩

def zb3 (b_Years : List Yr) (b_Olds : List Old10) (b_First : Int) (b_Last : Int) (stage : Int) : M (Int × Int × Int × Int × Int) :=
  M.bind (zae b_Years b_Olds b_First b_Last b_First b_Last stage) fun (r00, r01, r1) =>
  bif r1 != 0 then (
  M.pure (0, 0, 0, 0, r1))
  else (
  M.grd (decide ((-9223372036854775808 : Int) <= (b_Last - b_First)) && decide ((b_Last - b_First) <= (9223372036854775807 : Int))) <|
  M.grd (decide ((-9223372036854775808 : Int) <= ((b_Last - b_First) + 1)) && decide (((b_Last - b_First) + 1) <= (9223372036854775807 : Int))) <|
  M.bind (zbC r00 ((b_Last - b_First) + 1)) fun (r0, r12) =>
  M.bind (zbC r01 ((b_Last - b_First) + 1)) fun (r02, r13) =>
  M.pure (r0, r12, r02, r13, 0))
theorem zct {R : List Chunk} {C_b_Years : Cells} {v_b_Years : Value} {C_b_Olds : Cells} {v_b_Olds : Value} (b_Years : List Yr) (b_Olds : List Old10) (b_First : Int) (b_Last : Int) (stage : Int) (hC_b_Years : Reads R C_b_Years) (hs_b_Years : Sl C_b_Years v_b_Years b_Years) (hC_b_Olds : Reads R C_b_Olds) (hs_b_Olds : Sl C_b_Olds v_b_Olds b_Olds) {r : (Int × Int × Int × Int × Int)} (hM : (zb3 b_Years b_Olds b_First b_Last stage).Ends r) (w : World) (H : St w w [] R) : Ret Try.prog 26 #[.agg #[v_b_Years, v_b_Olds, I b_First, I b_Last], I stage] w fun v w' => ∃ (y0 : Int) (y1 : Int) (y2 : Int) (y3 : Int) (y4 : Int), (y0, y1, y2, y3, y4) = r /\ v = .tuple #[.agg #[I y0, I y1], .agg #[I y2, I y3], I y4] /\ St w w' [] R := by
 refine ret_of_W Try.func26 rfl rfl rfl ?_
 refine W.seq ?_
 refine W.region rfl ?_
 refine t_box (v := .agg #[v_b_Years, v_b_Olds, I b_First, I b_Last]) (cs := [v_b_Years, v_b_Olds, I b_First, I b_Last]) H rfl rfl ?_
 intro b_1 w1z H
 refine t_alloc (cs := [I 0, I 0]) H Al63 rfl ?_
 intro b_2 w2z H
 refine t_alloc (cs := [I 0, I 0]) H Al63 rfl ?_
 intro b_3 w3z H
 refine s_val (x_as (v := I 0) rfl) ?_
 refine s_nil ?_
 refine W.seq ?_
 refine W.region rfl ?_
 refine s_val (x_ld (p := .pointer (some ⟨b_1, 0, none⟩)) (v := .agg #[v_b_Years, v_b_Olds, I b_First, I b_Last]) rfl (ldb_ag (ds := [v_b_Years, v_b_Olds, I b_First, I b_Last]) Ag26 Sz26 (H.blk (k := 2) rfl) rfl rfl)) ?_
 refine s_val (x_fa (a := .pointer (some ⟨b_1, 0, none⟩)) (v := .pointer (some ⟨b_1, 2, none⟩)) rfl (fa_blk (o := 0) Fd26_2 Sz3)) ?_
 refine s_val (x_ld (p := .pointer (some ⟨b_1, 2, none⟩)) (v := I b_First) rfl (ldb_sc Sc3 (H.blk (k := 2) rfl) rfl)) ?_
 refine s_val (x_fa (a := .pointer (some ⟨b_1, 0, none⟩)) (v := .pointer (some ⟨b_1, 3, none⟩)) rfl (fa_blk (o := 0) Fd26_3 Sz3)) ?_
 refine s_val (x_ld (p := .pointer (some ⟨b_1, 3, none⟩)) (v := I b_Last) rfl (ldb_sc Sc3 (H.blk (k := 2) rfl) rfl)) ?_
 refine s_val (x_mv (v := I stage) rfl) ?_
 obtain ⟨r5z, hx4z, hM⟩ := M.e_bind hM
 refine s_call cf15 [.agg #[v_b_Years, v_b_Olds, I b_First, I b_Last], I b_First, I b_Last, I stage] rfl (zao b_Years b_Olds b_First b_Last b_First b_Last stage (hC_b_Years.app _) hs_b_Years (hC_b_Olds.app _) hs_b_Olds hx4z _ (St.give (T := [cBlk b_3 [I 0, I 0] 63, cBlk b_2 [I 0, I 0] 63, cBlk b_1 [v_b_Years, v_b_Olds, I b_First, I b_Last] 26]) H rfl)) ?_
 rintro vq w6z ⟨r00, r01, r1, hr7z, hvq, H2_⟩
 subst hr7z
 subst vq
 try dsimp only at hM
 replace H : St w w6z [cBlk b_3 [I 0, I 0] 63, cBlk b_2 [I 0, I 0] 63, cBlk b_1 [v_b_Years, v_b_Olds, I b_First, I b_Last] 26] R := H.back H2_ rfl
 clear H2_
 refine s_val (x_mv (v := .tuple #[.agg #[I r00, I r01], I r1]) rfl) ?_
 refine s_val (x_ext (vs := [.agg #[I r00, I r01], I r1]) (v := .agg #[I r00, I r01]) rfl rfl) ?_
 refine s_val (x_ext (vs := [.agg #[I r00, I r01], I r1]) (v := I r1) rfl rfl) ?_
 refine t_alloc (cs := [I 0, I 0]) H Al35 rfl ?_
 intro b_4 w8z H
 refine t_st (k := 0) (b := b_4) (off := 0) (cs := [I 0, I 0]) (vs := [I r00, I r01]) (cs' := [I r00, I r01]) (v := .agg #[I r00, I r01]) (L' := [cBlk b_4 [I r00, I r01] 35, cBlk b_3 [I 0, I 0] 63, cBlk b_2 [I 0, I 0] 63, cBlk b_1 [v_b_Years, v_b_Olds, I b_First, I b_Last] 26]) H rfl rfl rfl Sz35 rfl rfl rfl rfl rfl rfl ?_
 intro w9z H
 refine s_val (x_as (v := I r1) rfl) ?_
 refine s_nil ?_
 refine W.seq ?_
 refine W.seq ?_
 refine W.region rfl ?_
 refine s_val (x_mv (v := I r1) rfl) ?_
 refine s_val (x_cmp (kd := .i64) (a := r1) (b := 0) (r := r1 != 0) rfl rfl rfl) ?_
 refine s_nil ?_
 refine W.cond (r1 != 0) rfl (fun c10z => ?_) (fun c10z => ?_)
 ·replace hM := M.e_t hM c10z
  simp only [decide_eq_true_eq, decide_eq_false_iff_not, beq_iff_eq, bne_iff_ne, beq_eq_false_iff_ne, bne_eq_false_iff_eq, ne_eq, Decidable.not_not] at c10z
  refine W.seq ?_
  refine W.drawT (fun W => St w W [cBlk b_4 [I r00, I r01] 35, cBlk b_1 [v_b_Years, v_b_Olds, I b_First, I b_Last] 26] R) (.q 2 (.l2 0 (.l2 1 (.l 3 (.l 4 (.q 5 .nil))) 3 (.l 1 (.l 4 (.q 5 .nil)))) 1 (.l 0 (.l 3 (.l 4 (.q 5 .nil)))))) mixed (by decide +kernel) rfl ?_
  intro w11z hx_
  replace H : St w w11z [cBlk b_4 [I r00, I r01] 35, cBlk b_3 [I 0, I 0] 63, cBlk b_2 [I 0, I 0] 63, cBlk b_1 [v_b_Years, v_b_Olds, I b_First, I b_Last] 26] R := H.ext hx_
  clear hx_
  refine ⟨(H.pick [0, 3] (by decide) rfl), ?_⟩
  refine t_q rfl (fun w' H => x_mv (v := I r1) rfl) ?_
  refine t_l2 rfl rfl ?_ ?_
  ·skip
   refine s_val (x_ld (p := .pointer (some ⟨b_2, 0, none⟩)) (v := .agg #[I 0, I 0]) rfl (ldb_ag (ds := [I 0, I 0]) Ag63 Sz63 (H.blk (k := 2) rfl) rfl rfl)) ?_
   refine s_nil ⟨(H.pick [0, 3] (by decide) rfl), ?_⟩
   refine t_l2 rfl rfl ?_ ?_
   ·skip
    refine s_val (x_ld (p := .pointer (some ⟨b_3, 0, none⟩)) (v := .agg #[I 0, I 0]) rfl (ldb_ag (ds := [I 0, I 0]) Ag63 Sz63 (H.blk (k := 1) rfl) rfl rfl)) ?_
    refine s_nil ⟨(H.pick [0, 3] (by decide) rfl), ?_⟩
    refine t_l rfl ?_
    refine t_st (k := 2) (b := b_2) (off := 0) (cs := [I 0, I 0]) (vs := [I 0, I 0]) (cs' := [I 0, I 0]) (v := .agg #[I 0, I 0]) (L' := [cBlk b_4 [I r00, I r01] 35, cBlk b_3 [I 0, I 0] 63, cBlk b_2 [I 0, I 0] 63, cBlk b_1 [v_b_Years, v_b_Olds, I b_First, I b_Last] 26]) H rfl rfl rfl Sz63 rfl rfl rfl rfl rfl rfl ?_
    intro w14z H
    refine s_nil ⟨(H.pick [0, 3] (by decide) rfl), ?_⟩
    refine t_l rfl ?_
    refine t_st (k := 1) (b := b_3) (off := 0) (cs := [I 0, I 0]) (vs := [I 0, I 0]) (cs' := [I 0, I 0]) (v := .agg #[I 0, I 0]) (L' := [cBlk b_4 [I r00, I r01] 35, cBlk b_3 [I 0, I 0] 63, cBlk b_2 [I 0, I 0] 63, cBlk b_1 [v_b_Years, v_b_Olds, I b_First, I b_Last] 26]) H rfl rfl rfl Sz63 rfl rfl rfl rfl rfl rfl ?_
    intro w15z H
    refine s_nil ⟨(H.pick [0, 3] (by decide) rfl), ?_⟩
    refine t_q rfl (fun w' H => x_as (v := I r1) rfl) ?_
    refine t_nil ?_
    refine W.ret ?_
    have hb16z := (H.blk (k := 2) rfl)
    have hb17z := (H.blk (k := 1) rfl)
    have hr_ := M.e_pure hM
    exact ⟨_, (resE_ofn (vs := [.agg #[I 0, I 0], .agg #[I 0, I 0], I r1]) rfl rfl (.cell (v := .agg #[I 0, I 0]) rfl (run_loadVar_ag (ds := [I 0, I 0]) Ag63 Sz63 hb16z rfl rfl) <| .cell (v := .agg #[I 0, I 0]) rfl (run_loadVar_ag (ds := [I 0, I 0]) Ag63 Sz63 hb17z rfl rfl) <| .tmp (v := I r1) rfl <| .nil)), ⟨0, 0, 0, 0, r1, hr_, rfl, (H.pick [] (by decide) rfl)⟩⟩
   skip
   refine t_st (k := 2) (b := b_2) (off := 0) (cs := [I 0, I 0]) (vs := [I 0, I 0]) (cs' := [I 0, I 0]) (v := .agg #[I 0, I 0]) (L' := [cBlk b_4 [I r00, I r01] 35, cBlk b_3 [I 0, I 0] 63, cBlk b_2 [I 0, I 0] 63, cBlk b_1 [v_b_Years, v_b_Olds, I b_First, I b_Last] 26]) H rfl rfl rfl Sz63 rfl rfl rfl rfl rfl rfl ?_
   intro w18z H
   refine s_nil ⟨(H.pick [0, 3] (by decide) rfl), ?_⟩
   refine t_l rfl ?_
   refine s_val (x_ld (p := .pointer (some ⟨b_3, 0, none⟩)) (v := .agg #[I 0, I 0]) rfl (ldb_ag (ds := [I 0, I 0]) Ag63 Sz63 (H.blk (k := 1) rfl) rfl rfl)) ?_
   refine s_nil ⟨(H.pick [0, 3] (by decide) rfl), ?_⟩
   refine t_l rfl ?_
   refine t_st (k := 1) (b := b_3) (off := 0) (cs := [I 0, I 0]) (vs := [I 0, I 0]) (cs' := [I 0, I 0]) (v := .agg #[I 0, I 0]) (L' := [cBlk b_4 [I r00, I r01] 35, cBlk b_3 [I 0, I 0] 63, cBlk b_2 [I 0, I 0] 63, cBlk b_1 [v_b_Years, v_b_Olds, I b_First, I b_Last] 26]) H rfl rfl rfl Sz63 rfl rfl rfl rfl rfl rfl ?_
   intro w19z H
   refine s_nil ⟨(H.pick [0, 3] (by decide) rfl), ?_⟩
   refine t_q rfl (fun w' H => x_as (v := I r1) rfl) ?_
   refine t_nil ?_
   refine W.ret ?_
   have hb20z := (H.blk (k := 2) rfl)
   have hb21z := (H.blk (k := 1) rfl)
   have hr_ := M.e_pure hM
   exact ⟨_, (resE_ofn (vs := [.agg #[I 0, I 0], .agg #[I 0, I 0], I r1]) rfl rfl (.cell (v := .agg #[I 0, I 0]) rfl (run_loadVar_ag (ds := [I 0, I 0]) Ag63 Sz63 hb20z rfl rfl) <| .cell (v := .agg #[I 0, I 0]) rfl (run_loadVar_ag (ds := [I 0, I 0]) Ag63 Sz63 hb21z rfl rfl) <| .tmp (v := I r1) rfl <| .nil)), ⟨0, 0, 0, 0, r1, hr_, rfl, (H.pick [] (by decide) rfl)⟩⟩
  skip
  refine s_val (x_ld (p := .pointer (some ⟨b_3, 0, none⟩)) (v := .agg #[I 0, I 0]) rfl (ldb_ag (ds := [I 0, I 0]) Ag63 Sz63 (H.blk (k := 1) rfl) rfl rfl)) ?_
  refine s_nil ⟨(H.pick [0, 3] (by decide) rfl), ?_⟩
  refine t_l rfl ?_
  refine s_val (x_ld (p := .pointer (some ⟨b_2, 0, none⟩)) (v := .agg #[I 0, I 0]) rfl (ldb_ag (ds := [I 0, I 0]) Ag63 Sz63 (H.blk (k := 2) rfl) rfl rfl)) ?_
  refine s_nil ⟨(H.pick [0, 3] (by decide) rfl), ?_⟩
  refine t_l rfl ?_
  refine t_st (k := 2) (b := b_2) (off := 0) (cs := [I 0, I 0]) (vs := [I 0, I 0]) (cs' := [I 0, I 0]) (v := .agg #[I 0, I 0]) (L' := [cBlk b_4 [I r00, I r01] 35, cBlk b_3 [I 0, I 0] 63, cBlk b_2 [I 0, I 0] 63, cBlk b_1 [v_b_Years, v_b_Olds, I b_First, I b_Last] 26]) H rfl rfl rfl Sz63 rfl rfl rfl rfl rfl rfl ?_
  intro w22z H
  refine s_nil ⟨(H.pick [0, 3] (by decide) rfl), ?_⟩
  refine t_l rfl ?_
  refine t_st (k := 1) (b := b_3) (off := 0) (cs := [I 0, I 0]) (vs := [I 0, I 0]) (cs' := [I 0, I 0]) (v := .agg #[I 0, I 0]) (L' := [cBlk b_4 [I r00, I r01] 35, cBlk b_3 [I 0, I 0] 63, cBlk b_2 [I 0, I 0] 63, cBlk b_1 [v_b_Years, v_b_Olds, I b_First, I b_Last] 26]) H rfl rfl rfl Sz63 rfl rfl rfl rfl rfl rfl ?_
  intro w23z H
  refine s_nil ⟨(H.pick [0, 3] (by decide) rfl), ?_⟩
  refine t_q rfl (fun w' H => x_as (v := I r1) rfl) ?_
  refine t_nil ?_
  refine W.ret ?_
  have hb24z := (H.blk (k := 2) rfl)
  have hb25z := (H.blk (k := 1) rfl)
  have hr_ := M.e_pure hM
  exact ⟨_, (resE_ofn (vs := [.agg #[I 0, I 0], .agg #[I 0, I 0], I r1]) rfl rfl (.cell (v := .agg #[I 0, I 0]) rfl (run_loadVar_ag (ds := [I 0, I 0]) Ag63 Sz63 hb24z rfl rfl) <| .cell (v := .agg #[I 0, I 0]) rfl (run_loadVar_ag (ds := [I 0, I 0]) Ag63 Sz63 hb25z rfl rfl) <| .tmp (v := I r1) rfl <| .nil)), ⟨0, 0, 0, 0, r1, hr_, rfl, (H.pick [] (by decide) rfl)⟩⟩
 replace hM := M.e_f hM c10z
 simp only [decide_eq_true_eq, decide_eq_false_iff_not, beq_iff_eq, bne_iff_ne, beq_eq_false_iff_ne, bne_eq_false_iff_eq, ne_eq, Decidable.not_not] at c10z
 refine W.skip ?_
 refine W.seq ?_
 refine W.region rfl ?_
 refine s_val (x_fa (a := .pointer (some ⟨b_1, 0, none⟩)) (v := .pointer (some ⟨b_1, 3, none⟩)) rfl (fa_blk (o := 0) Fd26_3 Sz3)) ?_
 refine s_val (x_ld (p := .pointer (some ⟨b_1, 3, none⟩)) (v := I b_Last) rfl (ldb_sc Sc3 (H.blk (k := 3) rfl) rfl)) ?_
 refine s_val (x_fa (a := .pointer (some ⟨b_1, 0, none⟩)) (v := .pointer (some ⟨b_1, 2, none⟩)) rfl (fa_blk (o := 0) Fd26_2 Sz3)) ?_
 refine s_val (x_ld (p := .pointer (some ⟨b_1, 2, none⟩)) (v := I b_First) rfl (ldb_sc Sc3 (H.blk (k := 3) rfl) rfl)) ?_
 obtain ⟨sd26z, hM⟩ := M.e_grd hM
 simp only [Bool.and_eq_true, decide_eq_true_eq] at sd26z
 refine s_val (x_ari (a := b_Last) (b := b_First) (r := b_Last - b_First) rfl rfl rfl (by omega)) ?_
 obtain ⟨sd27z, hM⟩ := M.e_grd hM
 simp only [Bool.and_eq_true, decide_eq_true_eq] at sd27z
 refine s_val (x_ari (a := b_Last - b_First) (b := 1) (r := (b_Last - b_First) + 1) rfl rfl rfl (by omega)) ?_
 refine s_val (x_as (v := I ((b_Last - b_First) + 1)) rfl) ?_
 refine s_nil ?_
 refine W.seq ?_
 refine W.draw (fun W => St w W [cBlk b_4 [I r00, I r01] 35, cBlk b_1 [v_b_Years, v_b_Olds, I b_First, I b_Last] 26] R) [(0, true), (1, true), (2, true), (4, true), (5, true), (6, true), (3, false), (7, false), (8, false), (9, false), (10, true)] mixed (by decide +kernel) rfl ?_
 intro w28z hx_
 replace H : St w w28z [cBlk b_4 [I r00, I r01] 35, cBlk b_3 [I 0, I 0] 63, cBlk b_2 [I 0, I 0] 63, cBlk b_1 [v_b_Years, v_b_Olds, I b_First, I b_Last] 26] R := H.ext hx_
 clear hx_
 refine ⟨(H.pick [0, 3] (by decide) rfl), ?_⟩
 refine d_q rfl (fun w' H => x_fa (a := .pointer (some ⟨b_4, 0, none⟩)) (v := .pointer (some ⟨b_4, 0, none⟩)) rfl (fa_blk (o := 0) Fd35_0 Sz3)) ?_
 refine d_q rfl (fun w' H => x_ld (p := .pointer (some ⟨b_4, 0, none⟩)) (v := I r00) rfl (ldb_sc Sc3 (H.blk (k := 0) rfl) rfl)) ?_
 refine d_q rfl (fun w' H => x_mv (v := I ((b_Last - b_First) + 1)) rfl) ?_
 refine d_q rfl (fun w' H => x_fa (a := .pointer (some ⟨b_4, 0, none⟩)) (v := .pointer (some ⟨b_4, 1, none⟩)) rfl (fa_blk (o := 0) Fd35_1 Sz3)) ?_
 refine d_q rfl (fun w' H => x_ld (p := .pointer (some ⟨b_4, 1, none⟩)) (v := I r01) rfl (ldb_sc Sc3 (H.blk (k := 0) rfl) rfl)) ?_
 refine d_q rfl (fun w' H => x_mv (v := I ((b_Last - b_First) + 1)) rfl) ?_
 refine d_l rfl ?_
 obtain ⟨r30z, hx29z, hM⟩ := M.e_bind hM
 refine s_call cf69 [I r00, I ((b_Last - b_First) + 1)] rfl (zbT r00 ((b_Last - b_First) + 1) hx29z _ (St.give (T := [cBlk b_4 [I r00, I r01] 35, cBlk b_3 [I 0, I 0] 63, cBlk b_2 [I 0, I 0] 63, cBlk b_1 [v_b_Years, v_b_Olds, I b_First, I b_Last] 26]) H rfl)) ?_
 rintro vq w31z ⟨r0, r12, hr32z, hvq, H2_⟩
 subst hr32z
 subst vq
 try dsimp only at hM
 replace H : St w w31z [cBlk b_4 [I r00, I r01] 35, cBlk b_3 [I 0, I 0] 63, cBlk b_2 [I 0, I 0] 63, cBlk b_1 [v_b_Years, v_b_Olds, I b_First, I b_Last] 26] R := H.back H2_ rfl
 clear H2_
 refine s_nil ⟨(H.pick [0, 3] (by decide) rfl), ?_⟩
 refine d_l rfl ?_
 obtain ⟨r34z, hx33z, hM⟩ := M.e_bind hM
 refine s_call cf69 [I r01, I ((b_Last - b_First) + 1)] rfl (zbT r01 ((b_Last - b_First) + 1) hx33z _ (St.give (T := [cBlk b_4 [I r00, I r01] 35, cBlk b_3 [I 0, I 0] 63, cBlk b_2 [I 0, I 0] 63, cBlk b_1 [v_b_Years, v_b_Olds, I b_First, I b_Last] 26]) H rfl)) ?_
 rintro vq w35z ⟨r02, r13, hr36z, hvq, H2_⟩
 subst hr36z
 subst vq
 try dsimp only at hM
 replace H : St w w35z [cBlk b_4 [I r00, I r01] 35, cBlk b_3 [I 0, I 0] 63, cBlk b_2 [I 0, I 0] 63, cBlk b_1 [v_b_Years, v_b_Olds, I b_First, I b_Last] 26] R := H.back H2_ rfl
 clear H2_
 refine s_nil ⟨(H.pick [0, 3] (by decide) rfl), ?_⟩
 refine d_l rfl ?_
 refine t_st (k := 2) (b := b_2) (off := 0) (cs := [I 0, I 0]) (vs := [I r0, I r12]) (cs' := [I r0, I r12]) (v := .agg #[I r0, I r12]) (L' := [cBlk b_4 [I r00, I r01] 35, cBlk b_3 [I 0, I 0] 63, cBlk b_2 [I r0, I r12] 63, cBlk b_1 [v_b_Years, v_b_Olds, I b_First, I b_Last] 26]) H rfl rfl rfl Sz63 rfl rfl rfl rfl rfl rfl ?_
 intro w37z H
 refine s_nil ⟨(H.pick [0, 3] (by decide) rfl), ?_⟩
 refine d_l rfl ?_
 refine t_st (k := 1) (b := b_3) (off := 0) (cs := [I 0, I 0]) (vs := [I r02, I r13]) (cs' := [I r02, I r13]) (v := .agg #[I r02, I r13]) (L' := [cBlk b_4 [I r00, I r01] 35, cBlk b_3 [I r02, I r13] 63, cBlk b_2 [I r0, I r12] 63, cBlk b_1 [v_b_Years, v_b_Olds, I b_First, I b_Last] 26]) H rfl rfl rfl Sz63 rfl rfl rfl rfl rfl rfl ?_
 intro w38z H
 refine s_nil ⟨(H.pick [0, 3] (by decide) rfl), ?_⟩
 refine d_q rfl (fun w' H => x_as (v := I 0) rfl) ?_
 refine d_nil ?_
 refine W.ret ?_
 have hb39z := (H.blk (k := 2) rfl)
 have hb40z := (H.blk (k := 1) rfl)
 have hr_ := M.e_pure hM
 exact ⟨_, (resE_ofn (vs := [.agg #[I r0, I r12], .agg #[I r02, I r13], I 0]) rfl rfl (.cell (v := .agg #[I r0, I r12]) rfl (run_loadVar_ag (ds := [I r0, I r12]) Ag63 Sz63 hb39z rfl rfl) <| .cell (v := .agg #[I r02, I r13]) rfl (run_loadVar_ag (ds := [I r02, I r13]) Ag63 Sz63 hb40z rfl rfl) <| .tmp (v := I 0) rfl <| .nil)), ⟨r0, r12, r02, r13, 0, hr_, rfl, (H.pick [] (by decide) rfl)⟩⟩

def zak : (List Int) -> (Int × Span) -> M ((List Int) ⊕ Unit) := fun l (x2, x3) =>
  M.bind (zbM x3) fun r2 =>
  M.grd (decide ((l.length + ([(r2 : Int)]).length) * 8 <= 140737488355328)) <|
  M.pure (.inl (l ++ ([(r2 : Int)])))
def zaE (k020 : List Yr) (k021 : List Old10) (k022 : Int) (k023 : Int) (k024 : List (Int × Span)) (k12 : Int) (k22 : Int) (k32 : Int) : M Int :=
  M.bind (zaf k020 k021 k022 k023 k024 k12 k22) fun (r00, r10) =>
  M.bind (zag (M.yl zak) (.inl ([])) r00 r10 k020 k021 k022 k023 k024) fun x_ => match x_ with
  | .inl l => (
  M.grd (decide (l.length <= 1000000)) <|
  M.grd (decide ((-9223372036854775808 : Int) <= (((isort l).length : Int) - k32)) && decide ((((isort l).length : Int) - k32) <= (9223372036854775807 : Int))) <|
  M.grd (decide ((0 : Int) <= (((isort l).length : Int) - k32)) && decide ((((isort l).length : Int) - k32) < ((isort l).length : Int))) <|
  M.pure ((isort l).getD (Int.toNat (((isort l).length : Int) - k32)) 0))
  | .inr _ => M.fail
theorem zcI {R : List Chunk} {b_k0 : Nat} {b_k02 : Nat} {C_k020 : Cells} {v_k020 : Value} {C_k021 : Cells} {v_k021 : Value} {b_k024 : Nat} {b_k1 : Nat} {b_k2 : Nat} {b_k3 : Nat} (k020 : List Yr) (k021 : List Old10) (k022 : Int) (k023 : Int) (k024 : List (Int × Span)) (k12 : Int) (k22 : Int) (k32 : Int) (hC_k020 : Reads R C_k020) (hs_k020 : Sl C_k020 v_k020 k020) (hC_k021 : Reads R C_k021) (hs_k021 : Sl C_k021 v_k021 k021) (h_b_k024 : Has R (cMl I encSp b_k024 k024)) (h_b_k02 : Has R (cBlk b_k02 [v_k020, v_k021, I k022, I k023, .map (some b_k024)] 126)) (h_b_k0 : Has R (cBlk b_k0 [.pointer (some ⟨b_k02, 0, none⟩)] 102)) (h_b_k1 : Has R (cBlk b_k1 [I k12] 3)) (h_b_k2 : Has R (cBlk b_k2 [I k22] 3)) (h_b_k3 : Has R (cBlk b_k3 [I k32] 3)) {r : Int} (hM : (zaE k020 k021 k022 k023 k024 k12 k22 k32).Ends r) (w : World) (H : St w w [] R) : Ret Try.prog 58 #[.agg #[.func (.func 91) #[] #[]], .pointer (some ⟨b_k0, 0, none⟩), .pointer (some ⟨b_k1, 0, none⟩), .pointer (some ⟨b_k2, 0, none⟩), .pointer (some ⟨b_k3, 0, none⟩)] w fun v w' => ∃ (y0 : Int), y0 = r /\ v = I y0 /\ St w w' [] R := by
 refine ret_of_WD Try.func58 rfl rfl rfl ?_
 replace H : St w w [cMk ([])] R := H.mk0
 have hl_k020 := hs_k020.len_le
 have hl_k021 := hs_k021.len_le
 unfold zaE at hM
 refine WD.seq ?_
 refine WD.of ?_
 refine W.region rfl ?_
 refine t_box (v := .agg #[.func (.func 91) #[] #[]]) (cs := [.func (.func 91) #[] #[]]) H rfl rfl ?_
 intro b_1 w1z H
 refine s_val (x_as (v := I 0) rfl) ?_
 refine s_nil ?_
 refine WD.seq ?_
 refine WD.of ?_
 refine W.region rfl ?_
 refine t_alloc (cs := [.slice none 0 0]) H Al27 rfl ?_
 intro b_2 w2z H
 refine s_nil ?_
 refine WD.seq ?_
 refine WD.seq ?_
 refine WD.of ?_
 refine W.region rfl ?_
 refine s_val (x_ld (p := .pointer (some ⟨b_k0, 0, none⟩)) (v := .pointer (some ⟨b_k02, 0, none⟩)) rfl (ldb_sc Sc102 (h_b_k0.blk H) rfl)) ?_
 refine s_val (x_ld (p := .pointer (some ⟨b_k1, 0, none⟩)) (v := I k12) rfl (ldb_sc Sc3 (h_b_k1.blk H) rfl)) ?_
 refine s_val (x_ld (p := .pointer (some ⟨b_k2, 0, none⟩)) (v := I k22) rfl (ldb_sc Sc3 (h_b_k2.blk H) rfl)) ?_
 obtain ⟨r4z, hx3z, hM⟩ := M.e_bind hM
 refine s_call cf54 [.pointer (some ⟨b_k02, 0, none⟩), I k12, I k22] rfl (zbb k020 k021 k022 k023 k024 k12 k22 (hC_k020.app _) hs_k020 (hC_k021.app _) hs_k021 (h_b_k024.app _) (h_b_k02.app _) hx3z _ (St.give (T := [cBlk b_2 [.slice none 0 0] 27, cBlk b_1 [.func (.func 91) #[] #[]] 113, cMk ([])]) H rfl)) ?_
 rintro vq w5z ⟨r00, r10, nb0_3, nb1_4, nb2_5, hr6z, hvq, H2_⟩
 subst hr6z
 subst vq
 try dsimp only at hM
 replace H : St w w5z [cBlk nb0_3 [I r00] 3, cBlk nb1_4 [I r10] 3, cBlk nb2_5 [.pointer (some ⟨b_k02, 0, none⟩)] 102, cBlk b_2 [.slice none 0 0] 27, cBlk b_1 [.func (.func 91) #[] #[]] 113, cMk ([])] R := H.back H2_ rfl
 clear H2_
 refine s_nil ?_
 refine WD.block ?_
 replace H : St w w5z [cOwn (α := Int) 3 (.slice none 0 0) ([]), cBlk nb0_3 [I r00] 3, cBlk nb1_4 [I r10] 3, cBlk nb2_5 [.pointer (some ⟨b_k02, 0, none⟩)] 102, cBlk b_2 [.slice none 0 0] 27, cBlk b_1 [.func (.func 91) #[] #[]] 113, cMk ([])] R := H.nilOwn (α := Int) 3
 obtain ⟨t7z, hx8z, hM⟩ := M.e_bind hM
 refine WD.range (L := [cOwn (α := Int) 3 (.slice none 0 0) ([]), cBlk b_2 [(.slice none 0 0)] 27, cBlk nb0_3 [I r00] 3, cBlk nb1_4 [I r10] 3, cBlk nb2_5 [.pointer (some ⟨b_k02, 0, none⟩)] 102, cBlk b_1 [.func (.func 91) #[] #[]] 113]) [.pointer (some ⟨nb0_3, 0, none⟩), .pointer (some ⟨nb1_4, 0, none⟩), .pointer (some ⟨nb2_5, 0, none⟩)] (H.pick [6, 0, 4, 1, 2, 3, 5] (by decide) rfl) rfl cf90 ?_
 intro l9z D10z r11z w12z hr13z H
 have hYC : YieldC Try.prog ([cMk (D10z :: ([])), cBlk nb0_3 [I r00] 3, cBlk nb1_4 [I r10] 3, cBlk nb2_5 [.pointer (some ⟨b_k02, 0, none⟩)] 102, cBlk b_1 [.func (.func 91) #[] #[]] 113] ++ R) arISpan (yJ l9z r11z (fun l Ls_ => ∃ (v_l : Value), Ls_ = [cOwn (α := Int) 3 v_l l, cBlk b_2 [v_l] 27]) (fun (_ : Unit) _ => False) (fun _ => .ret)) (.func (.yield l9z) #[] #[]) (M.yl zak) := by
  refine YieldC.mk2 hr13z (fun l Ls_ => ∃ (v_l : Value), Ls_ = [cOwn (α := Int) 3 v_l l, cBlk b_2 [v_l] 27]) (fun (_ : Unit) _ => False) (fun _ => .ret) zak (by rintro l _ h_; obtain ⟨_, rfl⟩ := h_; rfl) (fun _ _ h_ => h_.elim) rfl (arISpan_len rfl) ?_
  intro C_ vs_ x_ hA_
  obtain ⟨x2, x3⟩ := x_
  obtain rfl := hA_
  intro w R hR_ Ls_ s_ r hY_ hM H
  skip
  obtain ⟨l, hs_eq_⟩ : ∃ y_, y_ = s_ := ⟨_, rfl⟩
  subst hs_eq_
  obtain ⟨v_l, rfl⟩ := hY_
  replace H : St w w [cOwn (α := Int) 3 v_l l, cBlk b_2 [v_l] 27, cMk (D10z :: ([])), cBlk nb0_3 [I r00] 3, cBlk nb1_4 [I r10] 3, cBlk nb2_5 [.pointer (some ⟨b_k02, 0, none⟩)] 102, cBlk b_1 [.func (.func 91) #[] #[]] 113] R := H
  refine W.region rfl ?_
  refine t_alloc (cs := [I 0, I 0]) H Al35 rfl ?_
  intro b_6 w14z H
  refine t_st (k := 0) (b := b_6) (off := 0) (cs := [I 0, I 0]) (vs := [I x3.lo, I x3.hi]) (cs' := [I x3.lo, I x3.hi]) (v := .agg #[I x3.lo, I x3.hi]) (L' := [cBlk b_6 [I x3.lo, I x3.hi] 35, cOwn (α := Int) 3 v_l l, cBlk b_2 [v_l] 27, cMk (D10z :: ([])), cBlk nb0_3 [I r00] 3, cBlk nb1_4 [I r10] 3, cBlk nb2_5 [.pointer (some ⟨b_k02, 0, none⟩)] 102, cBlk b_1 [.func (.func 91) #[] #[]] 113]) H rfl rfl rfl Sz35 rfl rfl rfl rfl rfl rfl ?_
  intro w15z H
  refine s_nil ?_
  refine ⟨rfl, [cBlk b_6 [I x3.lo, I x3.hi] 35], H.pick [0, 1, 2, 3, 4, 5, 6, 7] (by decide) rfl, ?_⟩
  clear H hR_
  intro w R hR_ H
  replace hC_k020 := hC_k020.sub hR_
  replace hC_k021 := hC_k021.sub hR_
  replace h_b_k024 := h_b_k024.sub hR_
  replace h_b_k02 := h_b_k02.sub hR_
  replace h_b_k0 := h_b_k0.sub hR_
  replace h_b_k1 := h_b_k1.sub hR_
  replace h_b_k2 := h_b_k2.sub hR_
  replace h_b_k3 := h_b_k3.sub hR_
  replace hM : (zak l (x2, x3)).Ends r := hM
  simp only [zak] at hM
  replace H : St w w [cBlk b_6 [I x3.lo, I x3.hi] 35, cOwn (α := Int) 3 v_l l, cBlk b_2 [v_l] 27, cMk (D10z :: ([])), cBlk nb0_3 [I r00] 3, cBlk nb1_4 [I r10] 3, cBlk nb2_5 [.pointer (some ⟨b_k02, 0, none⟩)] 102, cBlk b_1 [.func (.func 91) #[] #[]] 113] R := H
  refine W.block ?_
  refine W.drawT (fun W => St w W [cBlk b_6 [I x3.lo, I x3.hi] 35, cMk (D10z :: ([])), cBlk nb0_3 [I r00] 3, cBlk nb1_4 [I r10] 3, cBlk nb2_5 [.pointer (some ⟨b_k02, 0, none⟩)] 102, cBlk b_1 [.func (.func 91) #[] #[]] 113] R) (.q 1 (.q 2 (.q 3 (.l2 0 (.l 4 (.l 5 (.l 6 (.l 7 .nil)))) 4 (.l2 0 (.l 5 (.l 6 (.l 7 .nil))) 5 (.l 0 (.l 6 (.l 7 .nil)))))))) mixed (by decide +kernel) rfl ?_
  intro w16z hx_
  replace H : St w w16z [cBlk b_6 [I x3.lo, I x3.hi] 35, cOwn (α := Int) 3 v_l l, cBlk b_2 [v_l] 27, cMk (D10z :: ([])), cBlk nb0_3 [I r00] 3, cBlk nb1_4 [I r10] 3, cBlk nb2_5 [.pointer (some ⟨b_k02, 0, none⟩)] 102, cBlk b_1 [.func (.func 91) #[] #[]] 113] R := H.ext hx_
  clear hx_
  refine ⟨(H.pick [0, 3, 4, 5, 6, 7] (by decide) rfl), ?_⟩
  refine t_q rfl (fun w' H => x_fa (a := .pointer (some ⟨b_1, 0, none⟩)) (v := .pointer (some ⟨b_1, 0, none⟩)) rfl (fa_blk (o := 0) Fd113_0 Sz111)) ?_
  refine t_q rfl (fun w' H => x_ld (p := .pointer (some ⟨b_1, 0, none⟩)) (v := .func (.func 91) #[] #[]) rfl (ldb_sc Sc111 (H.blk (k := 5) rfl) rfl)) ?_
  refine t_q rfl (fun w' H => x_ld (p := .pointer (some ⟨b_6, 0, none⟩)) (v := .agg #[I x3.lo, I x3.hi]) rfl (ldb_ag (ds := [I x3.lo, I x3.hi]) Ag35 Sz35 (H.blk (k := 0) rfl) rfl rfl)) ?_
  refine t_l2 rfl rfl ?_ ?_
  ·skip
   refine s_val (x_ld (p := .pointer (some ⟨b_2, 0, none⟩)) (v := v_l) rfl (ldb_sc Sc27 (H.blk (k := 2) rfl) rfl)) ?_
   have hvc_q27z := Sl.cells (ownSl (H.get (k := 1) rfl))
   have hvo_q27z := Sl.oc (ownSl (H.get (k := 1) rfl))
   refine s_nil ⟨(H.pick [0, 3, 4, 5, 6, 7] (by decide) rfl), ?_⟩
   refine t_l rfl ?_
   obtain ⟨r29z, hx28z, hM⟩ := M.e_bind hM
   refine s_callv (f := 91) rfl cf91 [.agg #[I x3.lo, I x3.hi]] rfl (zbn x3 hx28z _ (St.give (T := [cBlk b_6 [I x3.lo, I x3.hi] 35, cOwn (α := Int) 3 v_l l, cBlk b_2 [v_l] 27, cMk (D10z :: ([])), cBlk nb0_3 [I r00] 3, cBlk nb1_4 [I r10] 3, cBlk nb2_5 [.pointer (some ⟨b_k02, 0, none⟩)] 102, cBlk b_1 [.func (.func 91) #[] #[]] 113]) H rfl)) ?_
   rintro vq w30z ⟨r2, hr31z, hvq, H2_⟩
   subst hr31z
   subst vq
   try dsimp only at hM
   replace H : St w w30z [cBlk b_6 [I x3.lo, I x3.hi] 35, cOwn (α := Int) 3 v_l l, cBlk b_2 [v_l] 27, cMk (D10z :: ([])), cBlk nb0_3 [I r00] 3, cBlk nb1_4 [I r10] 3, cBlk nb2_5 [.pointer (some ⟨b_k02, 0, none⟩)] 102, cBlk b_1 [.func (.func 91) #[] #[]] 113] R := H.back H2_ rfl
   clear H2_
   refine s_nil ⟨(H.pick [0, 3, 4, 5, 6, 7] (by decide) rfl), ?_⟩
   refine t_l rfl ?_
   refine t_bs (α := Int) T27 [I r2] [(r2 : Int)] H rfl (.cons rfl (Flat.rep_enc _ (r2 : Int)) <| .nil) rfl rfl rfl ?_
   intro v32z w33z H
   have hvc_q34z := Sl.cells (ownSl (H.get (k := 0) rfl))
   have hvo_q34z := Sl.oc (ownSl (H.get (k := 0) rfl))
   refine s_nil ⟨(H.pick [1, 4, 5, 6, 7, 8] (by decide) rfl), ?_⟩
   refine t_l rfl ?_
   obtain ⟨sd35z, hM⟩ := M.e_grd hM
   simp only [Bool.and_eq_true, decide_eq_true_eq] at sd35z
   refine t_app (α := Int) (k := 2) (l := l) (l2 := [(r2 : Int)]) (l' := l ++ ([(r2 : Int)])) (vy := v32z) T27 rfl H rfl rfl rfl (ownSl (H.get (k := 0) rfl)) (ownLe _ (H.get (k := 0) rfl)) (rfl) (by first | omega | (simp only [List.length_nil] at *; omega)) ?_
   intro v36z w37z H
   replace H : St w w37z [cOwn (α := Int) 3 v32z ([(r2 : Int)]), cBlk b_6 [I x3.lo, I x3.hi] 35, cOwn (α := Int) 3 v36z (l ++ ([(r2 : Int)])), cBlk b_2 [v_l] 27, cMk (D10z :: ([])), cBlk nb0_3 [I r00] 3, cBlk nb1_4 [I r10] 3, cBlk nb2_5 [.pointer (some ⟨b_k02, 0, none⟩)] 102, cBlk b_1 [.func (.func 91) #[] #[]] 113] R := H
   have hvc_q38z := Sl.cells (ownSl (H.get (k := 2) rfl))
   have hvo_q38z := Sl.oc (ownSl (H.get (k := 2) rfl))
   refine s_nil ⟨(H.pick [1, 4, 5, 6, 7, 8] (by decide) rfl), ?_⟩
   refine t_l rfl ?_
   refine t_st (k := 3) (b := b_2) (off := 0) (cs := [v_l]) (vs := [v36z]) (cs' := [v36z]) (v := v36z) (L' := [cOwn (α := Int) 3 v32z ([(r2 : Int)]), cBlk b_6 [I x3.lo, I x3.hi] 35, cOwn (α := Int) 3 v36z (l ++ ([(r2 : Int)])), cBlk b_2 [v36z] 27, cMk (D10z :: ([])), cBlk nb0_3 [I r00] 3, cBlk nb1_4 [I r10] 3, cBlk nb2_5 [.pointer (some ⟨b_k02, 0, none⟩)] 102, cBlk b_1 [.func (.func 91) #[] #[]] 113]) H rfl rfl rfl Sz27 (Sl.cells (ownSl (H.get (k := 2) rfl))) rfl rfl (by simp only [List.all_cons, List.all_nil, Bool.true_and, Bool.and_true, Sl.oc (ownSl (H.get (k := 2) rfl))]; try rfl) rfl rfl ?_
   intro w39z H
   refine s_nil ⟨(H.pick [1, 4, 5, 6, 7, 8] (by decide) rfl), ?_⟩
   refine t_nil ?_
   exact ⟨l ++ ([(r2 : Int)]), [cOwn (α := Int) 3 v36z (l ++ ([(r2 : Int)])), cBlk b_2 [v36z] 27], (M.e_pure hM).symm, ⟨v36z, rfl⟩, H.pick [2, 3, 4, 5, 6, 7, 8] (by decide) rfl⟩
  skip
  obtain ⟨r41z, hx40z, hM⟩ := M.e_bind hM
  refine s_callv (f := 91) rfl cf91 [.agg #[I x3.lo, I x3.hi]] rfl (zbn x3 hx40z _ (St.give (T := [cBlk b_6 [I x3.lo, I x3.hi] 35, cOwn (α := Int) 3 v_l l, cBlk b_2 [v_l] 27, cMk (D10z :: ([])), cBlk nb0_3 [I r00] 3, cBlk nb1_4 [I r10] 3, cBlk nb2_5 [.pointer (some ⟨b_k02, 0, none⟩)] 102, cBlk b_1 [.func (.func 91) #[] #[]] 113]) H rfl)) ?_
  rintro vq w42z ⟨r2, hr43z, hvq, H2_⟩
  subst hr43z
  subst vq
  try dsimp only at hM
  replace H : St w w42z [cBlk b_6 [I x3.lo, I x3.hi] 35, cOwn (α := Int) 3 v_l l, cBlk b_2 [v_l] 27, cMk (D10z :: ([])), cBlk nb0_3 [I r00] 3, cBlk nb1_4 [I r10] 3, cBlk nb2_5 [.pointer (some ⟨b_k02, 0, none⟩)] 102, cBlk b_1 [.func (.func 91) #[] #[]] 113] R := H.back H2_ rfl
  clear H2_
  have hvc_q44z := Sl.cells (ownSl (H.get (k := 1) rfl))
  have hvo_q44z := Sl.oc (ownSl (H.get (k := 1) rfl))
  refine s_nil ⟨(H.pick [0, 3, 4, 5, 6, 7] (by decide) rfl), ?_⟩
  obtain ⟨sd47z, hM⟩ := M.e_grd hM
  simp only [Bool.and_eq_true, decide_eq_true_eq] at sd47z
  refine t_l2 rfl rfl ?_ ?_
  ·skip
   refine s_val (x_ld (p := .pointer (some ⟨b_2, 0, none⟩)) (v := v_l) rfl (ldb_sc Sc27 (H.blk (k := 2) rfl) rfl)) ?_
   refine s_nil ⟨(H.pick [0, 3, 4, 5, 6, 7] (by decide) rfl), ?_⟩
   refine t_l rfl ?_
   refine t_bs (α := Int) T27 [I r2] [(r2 : Int)] H rfl (.cons rfl (Flat.rep_enc _ (r2 : Int)) <| .nil) rfl rfl rfl ?_
   intro v51z w52z H
   have hvc_q53z := Sl.cells (ownSl (H.get (k := 0) rfl))
   have hvo_q53z := Sl.oc (ownSl (H.get (k := 0) rfl))
   refine s_nil ⟨(H.pick [1, 4, 5, 6, 7, 8] (by decide) rfl), ?_⟩
   refine t_l rfl ?_
   refine t_app (α := Int) (k := 2) (l := l) (l2 := [(r2 : Int)]) (l' := l ++ ([(r2 : Int)])) (vy := v51z) T27 rfl H rfl rfl rfl (ownSl (H.get (k := 0) rfl)) (ownLe _ (H.get (k := 0) rfl)) (rfl) (by first | omega | (simp only [List.length_nil] at *; omega)) ?_
   intro v54z w55z H
   replace H : St w w55z [cOwn (α := Int) 3 v51z ([(r2 : Int)]), cBlk b_6 [I x3.lo, I x3.hi] 35, cOwn (α := Int) 3 v54z (l ++ ([(r2 : Int)])), cBlk b_2 [v_l] 27, cMk (D10z :: ([])), cBlk nb0_3 [I r00] 3, cBlk nb1_4 [I r10] 3, cBlk nb2_5 [.pointer (some ⟨b_k02, 0, none⟩)] 102, cBlk b_1 [.func (.func 91) #[] #[]] 113] R := H
   have hvc_q56z := Sl.cells (ownSl (H.get (k := 2) rfl))
   have hvo_q56z := Sl.oc (ownSl (H.get (k := 2) rfl))
   refine s_nil ⟨(H.pick [1, 4, 5, 6, 7, 8] (by decide) rfl), ?_⟩
   refine t_l rfl ?_
   refine t_st (k := 3) (b := b_2) (off := 0) (cs := [v_l]) (vs := [v54z]) (cs' := [v54z]) (v := v54z) (L' := [cOwn (α := Int) 3 v51z ([(r2 : Int)]), cBlk b_6 [I x3.lo, I x3.hi] 35, cOwn (α := Int) 3 v54z (l ++ ([(r2 : Int)])), cBlk b_2 [v54z] 27, cMk (D10z :: ([])), cBlk nb0_3 [I r00] 3, cBlk nb1_4 [I r10] 3, cBlk nb2_5 [.pointer (some ⟨b_k02, 0, none⟩)] 102, cBlk b_1 [.func (.func 91) #[] #[]] 113]) H rfl rfl rfl Sz27 (Sl.cells (ownSl (H.get (k := 2) rfl))) rfl rfl (by simp only [List.all_cons, List.all_nil, Bool.true_and, Bool.and_true, Sl.oc (ownSl (H.get (k := 2) rfl))]; try rfl) rfl rfl ?_
   intro w57z H
   refine s_nil ⟨(H.pick [1, 4, 5, 6, 7, 8] (by decide) rfl), ?_⟩
   refine t_nil ?_
   exact ⟨l ++ ([(r2 : Int)]), [cOwn (α := Int) 3 v54z (l ++ ([(r2 : Int)])), cBlk b_2 [v54z] 27], (M.e_pure hM).symm, ⟨v54z, rfl⟩, H.pick [2, 3, 4, 5, 6, 7, 8] (by decide) rfl⟩
  skip
  refine t_bs (α := Int) T27 [I r2] [(r2 : Int)] H rfl (.cons rfl (Flat.rep_enc _ (r2 : Int)) <| .nil) rfl rfl rfl ?_
  intro v58z w59z H
  have hvc_q60z := Sl.cells (ownSl (H.get (k := 0) rfl))
  have hvo_q60z := Sl.oc (ownSl (H.get (k := 0) rfl))
  refine s_nil ⟨(H.pick [1, 4, 5, 6, 7, 8] (by decide) rfl), ?_⟩
  refine t_l rfl ?_
  refine s_val (x_ld (p := .pointer (some ⟨b_2, 0, none⟩)) (v := v_l) rfl (ldb_sc Sc27 (H.blk (k := 3) rfl) rfl)) ?_
  refine s_nil ⟨(H.pick [1, 4, 5, 6, 7, 8] (by decide) rfl), ?_⟩
  refine t_l rfl ?_
  refine t_app (α := Int) (k := 2) (l := l) (l2 := [(r2 : Int)]) (l' := l ++ ([(r2 : Int)])) (vy := v58z) T27 rfl H rfl rfl rfl (ownSl (H.get (k := 0) rfl)) (ownLe _ (H.get (k := 0) rfl)) (rfl) (by first | omega | (simp only [List.length_nil] at *; omega)) ?_
  intro v61z w62z H
  replace H : St w w62z [cOwn (α := Int) 3 v58z ([(r2 : Int)]), cBlk b_6 [I x3.lo, I x3.hi] 35, cOwn (α := Int) 3 v61z (l ++ ([(r2 : Int)])), cBlk b_2 [v_l] 27, cMk (D10z :: ([])), cBlk nb0_3 [I r00] 3, cBlk nb1_4 [I r10] 3, cBlk nb2_5 [.pointer (some ⟨b_k02, 0, none⟩)] 102, cBlk b_1 [.func (.func 91) #[] #[]] 113] R := H
  have hvc_q63z := Sl.cells (ownSl (H.get (k := 2) rfl))
  have hvo_q63z := Sl.oc (ownSl (H.get (k := 2) rfl))
  refine s_nil ⟨(H.pick [1, 4, 5, 6, 7, 8] (by decide) rfl), ?_⟩
  refine t_l rfl ?_
  refine t_st (k := 3) (b := b_2) (off := 0) (cs := [v_l]) (vs := [v61z]) (cs' := [v61z]) (v := v61z) (L' := [cOwn (α := Int) 3 v58z ([(r2 : Int)]), cBlk b_6 [I x3.lo, I x3.hi] 35, cOwn (α := Int) 3 v61z (l ++ ([(r2 : Int)])), cBlk b_2 [v61z] 27, cMk (D10z :: ([])), cBlk nb0_3 [I r00] 3, cBlk nb1_4 [I r10] 3, cBlk nb2_5 [.pointer (some ⟨b_k02, 0, none⟩)] 102, cBlk b_1 [.func (.func 91) #[] #[]] 113]) H rfl rfl rfl Sz27 (Sl.cells (ownSl (H.get (k := 2) rfl))) rfl rfl (by simp only [List.all_cons, List.all_nil, Bool.true_and, Bool.and_true, Sl.oc (ownSl (H.get (k := 2) rfl))]; try rfl) rfl rfl ?_
  intro w64z H
  refine s_nil ⟨(H.pick [1, 4, 5, 6, 7, 8] (by decide) rfl), ?_⟩
  refine t_nil ?_
  exact ⟨l ++ ([(r2 : Int)]), [cOwn (α := Int) 3 v61z (l ++ ([(r2 : Int)])), cBlk b_2 [v61z] 27], (M.e_pure hM).symm, ⟨v61z, rfl⟩, H.pick [2, 3, 4, 5, 6, 7, 8] (by decide) rfl⟩
 replace H : St w w12z (cAll (cObj l9z (.loop r11z) :: [cOwn (α := Int) 3 (.slice none 0 0) ([]), cBlk b_2 [(.slice none 0 0)] 27]) :: [cMk (D10z :: ([])), cBlk nb0_3 [I r00] 3, cBlk nb1_4 [I r10] 3, cBlk nb2_5 [.pointer (some ⟨b_k02, 0, none⟩)] 102, cBlk b_1 [.func (.func 91) #[] #[]] 113]) R := St.bundleB (A := cObj l9z (.loop r11z) :: [cOwn (α := Int) 3 (.slice none 0 0) ([]), cBlk b_2 [(.slice none 0 0)] 27]) (T := [cMk (D10z :: ([])), cBlk nb0_3 [I r00] 3, cBlk nb1_4 [I r10] 3, cBlk nb2_5 [.pointer (some ⟨b_k02, 0, none⟩)] 102, cBlk b_1 [.func (.func 91) #[] #[]] 113]) rfl (H.pick [0, 2, 3, 1, 4, 5, 6, 7] (by decide) rfl)
 refine (zbf (M.yl zak) (.inl ([])) r00 r10 k020 k021 k022 k023 k024 hYC ⟨_, rfl, ⟨(.slice none 0 0), rfl⟩⟩ (Has.here (k := 1) rfl) (Has.here (k := 2) rfl) (hC_k020.app _) hs_k020 (hC_k021.app _) hs_k021 (h_b_k024.app _) (h_b_k02.app _) (Has.here (k := 3) rfl) hx8z _ (St.give (A := [cAll (cObj l9z (.loop r11z) :: [cOwn (α := Int) 3 (.slice none 0 0) ([]), cBlk b_2 [(.slice none 0 0)] 27])]) (T := [cMk (D10z :: ([])), cBlk nb0_3 [I r00] 3, cBlk nb1_4 [I r10] 3, cBlk nb2_5 [.pointer (some ⟨b_k02, 0, none⟩)] 102, cBlk b_1 [.func (.func 91) #[] #[]] 113]) H rfl)).mono ?_
 rintro vq w65z ⟨t69z, Ls67z, hq70z, hvq, H2_, hY68z⟩
 subst hq70z
 replace H := H.back H2_ rfl
 clear H2_ hYC
 rcases t69z with l | _
 ·try dsimp only at hM
  obtain ⟨_, rfl, v_l, rfl⟩ := hY68z
  refine ⟨_, [cOwn (α := Int) 3 v_l l, cBlk b_2 [v_l] 27, cBlk nb0_3 [I r00] 3, cBlk nb1_4 [I r10] 3, cBlk nb2_5 [.pointer (some ⟨b_k02, 0, none⟩)] 102, cBlk b_1 [.func (.func 91) #[] #[]] 113], H.unbundle.pick [0, 3, 1, 2, 4, 5, 6, 7] (by decide) rfl, hr13z.nb, ?_⟩
  intro w66z H
  rw [hr13z.pd]
  replace H : St w w66z [cMk (D10z :: ([])), cOwn (α := Int) 3 v_l l, cBlk b_2 [v_l] 27, cBlk nb0_3 [I r00] 3, cBlk nb1_4 [I r10] 3, cBlk nb2_5 [.pointer (some ⟨b_k02, 0, none⟩)] 102, cBlk b_1 [.func (.func 91) #[] #[]] 113] R := H
  try simp only []
  refine WD.seq ?_
  refine WD.of ?_
  refine W.region rfl ?_
  refine s_val (x_ld (p := .pointer (some ⟨b_2, 0, none⟩)) (v := v_l) rfl (ldb_sc Sc27 (H.blk (k := 2) rfl) rfl)) ?_
  obtain ⟨sd72z, hM⟩ := M.e_grd hM
  simp only [Bool.and_eq_true, decide_eq_true_eq] at sd72z
  refine s_call cf59 [v_l] rfl (sort_any (H.get (k := 1) rfl) (by omega)) ?_
  rintro _ w71z ⟨rfl, ho_, kp_, hs_⟩
  replace H : St w w71z [cMk (D10z :: ([])), cOwn (α := Int) 3 v_l (isort l), cBlk b_2 [v_l] 27, cBlk nb0_3 [I r00] 3, cBlk nb1_4 [I r10] 3, cBlk nb2_5 [.pointer (some ⟨b_k02, 0, none⟩)] 102, cBlk b_1 [.func (.func 91) #[] #[]] 113] R := H.sorted (k := 1) rfl ho_ kp_ hs_ rfl
  clear ho_ kp_ hs_
  refine s_nil ?_
  refine WD.seq ?_
  refine WD.of ?_
  refine W.region rfl ?_
  refine s_val (x_ld (p := .pointer (some ⟨b_2, 0, none⟩)) (v := v_l) rfl (ldb_sc Sc27 (H.blk (k := 2) rfl) rfl)) ?_
  refine s_val (x_ld (p := .pointer (some ⟨b_2, 0, none⟩)) (v := v_l) rfl (ldb_sc Sc27 (H.blk (k := 2) rfl) rfl)) ?_
  have hl73z := ((ownSl (H.get (k := 1) rfl))).len_le
  refine s_val (x_lenS T27.und rfl (ownSl (H.get (k := 1) rfl))) ?_
  refine s_val (x_ld (p := .pointer (some ⟨b_k3, 0, none⟩)) (v := I k32) rfl (ldb_sc Sc3 (h_b_k3.blk H) rfl)) ?_
  obtain ⟨sd74z, hM⟩ := M.e_grd hM
  simp only [Bool.and_eq_true, decide_eq_true_eq] at sd74z
  refine s_val (x_ari (a := ((isort l).length : Int)) (b := k32) (r := ((isort l).length : Int) - k32) rfl rfl rfl (by omega)) ?_
  obtain ⟨sd75z, hM⟩ := M.e_grd hM
  simp only [Bool.and_eq_true, decide_eq_true_eq] at sd75z
  refine s_val (x_ix (a := v_l) (b := I (((isort l).length : Int) - k32)) (v := vat v_l 1 (Int.toNat (((isort l).length : Int) - k32))) rfl rfl (Sl.ix (α := Int) T27.und T27.size (ownSl (H.get (k := 1) rfl)) (by omega) (by omega))) ?_
  refine s_val (x_ld (p := vat v_l 1 (Int.toNat (((isort l).length : Int) - k32))) (v := I ((isort l).getD (Int.toNat (((isort l).length : Int) - k32)) 0)) rfl (ld_sc Sc3 (At.mono (Int_at (ownSl (H.get (k := 1) rfl)) (i := ((isort l).length : Int) - k32) (by omega) (by omega)) (ownLe _ (H.get (k := 1) rfl))))) ?_
  refine s_val (x_as (v := I ((isort l).getD (Int.toNat (((isort l).length : Int) - k32)) 0)) rfl) ?_
  refine s_nil ?_
  refine WD.of ?_
  refine W.ret ?_
  refine bodyD_r (H.pick [0, 1, 2, 3, 4, 5, 6] (by decide) rfl) ?_
  intro w76z H
  replace H : St w w76z [cOwn (α := Int) 3 v_l (isort l), cBlk b_2 [v_l] 27, cBlk nb0_3 [I r00] 3, cBlk nb1_4 [I r10] 3, cBlk nb2_5 [.pointer (some ⟨b_k02, 0, none⟩)] 102, cBlk b_1 [.func (.func 91) #[] #[]] 113] R := H
  have hr_ := M.e_pure hM
  exact ⟨_, resE_tmp rfl, ⟨((isort l).getD (Int.toNat (((isort l).length : Int) - k32)) 0), hr_, rfl, (H.pick [] (by decide) rfl)⟩⟩
 obtain ⟨_, _, h_⟩ := hY68z; exact h_.elim

def zaj : (List Int) -> (Int × Span) -> M ((List Int) ⊕ Unit) := fun l (x2, x3) =>
  M.bind (zaV x3) fun r2 =>
  M.grd (decide ((l.length + ([(r2 : Int)]).length) * 8 <= 140737488355328)) <|
  M.pure (.inl (l ++ ([(r2 : Int)])))
def zaP (k020 : List Yr) (k021 : List Old10) (k022 : Int) (k023 : Int) (k024 : List (Int × Span)) (k12 : Int) (k22 : Int) (k32 : Int) : M Int :=
  M.bind (zaf k020 k021 k022 k023 k024 k12 k22) fun (r00, r10) =>
  M.bind (zag (M.yl zaj) (.inl ([])) r00 r10 k020 k021 k022 k023 k024) fun x_ => match x_ with
  | .inl l => (
  M.grd (decide (l.length <= 1000000)) <|
  M.grd (decide ((-9223372036854775808 : Int) <= (((isort l).length : Int) - k32)) && decide ((((isort l).length : Int) - k32) <= (9223372036854775807 : Int))) <|
  M.grd (decide ((0 : Int) <= (((isort l).length : Int) - k32)) && decide ((((isort l).length : Int) - k32) < ((isort l).length : Int))) <|
  M.pure ((isort l).getD (Int.toNat (((isort l).length : Int) - k32)) 0))
  | .inr _ => M.fail
theorem zce {R : List Chunk} {b_k0 : Nat} {b_k02 : Nat} {C_k020 : Cells} {v_k020 : Value} {C_k021 : Cells} {v_k021 : Value} {b_k024 : Nat} {b_k1 : Nat} {b_k2 : Nat} {b_k3 : Nat} (k020 : List Yr) (k021 : List Old10) (k022 : Int) (k023 : Int) (k024 : List (Int × Span)) (k12 : Int) (k22 : Int) (k32 : Int) (hC_k020 : Reads R C_k020) (hs_k020 : Sl C_k020 v_k020 k020) (hC_k021 : Reads R C_k021) (hs_k021 : Sl C_k021 v_k021 k021) (h_b_k024 : Has R (cMl I encSp b_k024 k024)) (h_b_k02 : Has R (cBlk b_k02 [v_k020, v_k021, I k022, I k023, .map (some b_k024)] 126)) (h_b_k0 : Has R (cBlk b_k0 [.pointer (some ⟨b_k02, 0, none⟩)] 102)) (h_b_k1 : Has R (cBlk b_k1 [I k12] 3)) (h_b_k2 : Has R (cBlk b_k2 [I k22] 3)) (h_b_k3 : Has R (cBlk b_k3 [I k32] 3)) {r : Int} (hM : (zaP k020 k021 k022 k023 k024 k12 k22 k32).Ends r) (w : World) (H : St w w [] R) : Ret Try.prog 58 #[.agg #[.func (.func 92) #[] #[]], .pointer (some ⟨b_k0, 0, none⟩), .pointer (some ⟨b_k1, 0, none⟩), .pointer (some ⟨b_k2, 0, none⟩), .pointer (some ⟨b_k3, 0, none⟩)] w fun v w' => ∃ (y0 : Int), y0 = r /\ v = I y0 /\ St w w' [] R := by
 refine ret_of_WD Try.func58 rfl rfl rfl ?_
 replace H : St w w [cMk ([])] R := H.mk0
 have hl_k020 := hs_k020.len_le
 have hl_k021 := hs_k021.len_le
 unfold zaP at hM
 refine WD.seq ?_
 refine WD.of ?_
 refine W.region rfl ?_
 refine t_box (v := .agg #[.func (.func 92) #[] #[]]) (cs := [.func (.func 92) #[] #[]]) H rfl rfl ?_
 intro b_1 w1z H
 refine s_val (x_as (v := I 0) rfl) ?_
 refine s_nil ?_
 refine WD.seq ?_
 refine WD.of ?_
 refine W.region rfl ?_
 refine t_alloc (cs := [.slice none 0 0]) H Al27 rfl ?_
 intro b_2 w2z H
 refine s_nil ?_
 refine WD.seq ?_
 refine WD.seq ?_
 refine WD.of ?_
 refine W.region rfl ?_
 refine s_val (x_ld (p := .pointer (some ⟨b_k0, 0, none⟩)) (v := .pointer (some ⟨b_k02, 0, none⟩)) rfl (ldb_sc Sc102 (h_b_k0.blk H) rfl)) ?_
 refine s_val (x_ld (p := .pointer (some ⟨b_k1, 0, none⟩)) (v := I k12) rfl (ldb_sc Sc3 (h_b_k1.blk H) rfl)) ?_
 refine s_val (x_ld (p := .pointer (some ⟨b_k2, 0, none⟩)) (v := I k22) rfl (ldb_sc Sc3 (h_b_k2.blk H) rfl)) ?_
 obtain ⟨r4z, hx3z, hM⟩ := M.e_bind hM
 refine s_call cf54 [.pointer (some ⟨b_k02, 0, none⟩), I k12, I k22] rfl (zbb k020 k021 k022 k023 k024 k12 k22 (hC_k020.app _) hs_k020 (hC_k021.app _) hs_k021 (h_b_k024.app _) (h_b_k02.app _) hx3z _ (St.give (T := [cBlk b_2 [.slice none 0 0] 27, cBlk b_1 [.func (.func 92) #[] #[]] 113, cMk ([])]) H rfl)) ?_
 rintro vq w5z ⟨r00, r10, nb0_3, nb1_4, nb2_5, hr6z, hvq, H2_⟩
 subst hr6z
 subst vq
 try dsimp only at hM
 replace H : St w w5z [cBlk nb0_3 [I r00] 3, cBlk nb1_4 [I r10] 3, cBlk nb2_5 [.pointer (some ⟨b_k02, 0, none⟩)] 102, cBlk b_2 [.slice none 0 0] 27, cBlk b_1 [.func (.func 92) #[] #[]] 113, cMk ([])] R := H.back H2_ rfl
 clear H2_
 refine s_nil ?_
 refine WD.block ?_
 replace H : St w w5z [cOwn (α := Int) 3 (.slice none 0 0) ([]), cBlk nb0_3 [I r00] 3, cBlk nb1_4 [I r10] 3, cBlk nb2_5 [.pointer (some ⟨b_k02, 0, none⟩)] 102, cBlk b_2 [.slice none 0 0] 27, cBlk b_1 [.func (.func 92) #[] #[]] 113, cMk ([])] R := H.nilOwn (α := Int) 3
 obtain ⟨t7z, hx8z, hM⟩ := M.e_bind hM
 refine WD.range (L := [cOwn (α := Int) 3 (.slice none 0 0) ([]), cBlk b_2 [(.slice none 0 0)] 27, cBlk nb0_3 [I r00] 3, cBlk nb1_4 [I r10] 3, cBlk nb2_5 [.pointer (some ⟨b_k02, 0, none⟩)] 102, cBlk b_1 [.func (.func 92) #[] #[]] 113]) [.pointer (some ⟨nb0_3, 0, none⟩), .pointer (some ⟨nb1_4, 0, none⟩), .pointer (some ⟨nb2_5, 0, none⟩)] (H.pick [6, 0, 4, 1, 2, 3, 5] (by decide) rfl) rfl cf90 ?_
 intro l9z D10z r11z w12z hr13z H
 have hYC : YieldC Try.prog ([cMk (D10z :: ([])), cBlk nb0_3 [I r00] 3, cBlk nb1_4 [I r10] 3, cBlk nb2_5 [.pointer (some ⟨b_k02, 0, none⟩)] 102, cBlk b_1 [.func (.func 92) #[] #[]] 113] ++ R) arISpan (yJ l9z r11z (fun l Ls_ => ∃ (v_l : Value), Ls_ = [cOwn (α := Int) 3 v_l l, cBlk b_2 [v_l] 27]) (fun (_ : Unit) _ => False) (fun _ => .ret)) (.func (.yield l9z) #[] #[]) (M.yl zaj) := by
  refine YieldC.mk2 hr13z (fun l Ls_ => ∃ (v_l : Value), Ls_ = [cOwn (α := Int) 3 v_l l, cBlk b_2 [v_l] 27]) (fun (_ : Unit) _ => False) (fun _ => .ret) zaj (by rintro l _ h_; obtain ⟨_, rfl⟩ := h_; rfl) (fun _ _ h_ => h_.elim) rfl (arISpan_len rfl) ?_
  intro C_ vs_ x_ hA_
  obtain ⟨x2, x3⟩ := x_
  obtain rfl := hA_
  intro w R hR_ Ls_ s_ r hY_ hM H
  skip
  obtain ⟨l, hs_eq_⟩ : ∃ y_, y_ = s_ := ⟨_, rfl⟩
  subst hs_eq_
  obtain ⟨v_l, rfl⟩ := hY_
  replace H : St w w [cOwn (α := Int) 3 v_l l, cBlk b_2 [v_l] 27, cMk (D10z :: ([])), cBlk nb0_3 [I r00] 3, cBlk nb1_4 [I r10] 3, cBlk nb2_5 [.pointer (some ⟨b_k02, 0, none⟩)] 102, cBlk b_1 [.func (.func 92) #[] #[]] 113] R := H
  refine W.region rfl ?_
  refine t_alloc (cs := [I 0, I 0]) H Al35 rfl ?_
  intro b_6 w14z H
  refine t_st (k := 0) (b := b_6) (off := 0) (cs := [I 0, I 0]) (vs := [I x3.lo, I x3.hi]) (cs' := [I x3.lo, I x3.hi]) (v := .agg #[I x3.lo, I x3.hi]) (L' := [cBlk b_6 [I x3.lo, I x3.hi] 35, cOwn (α := Int) 3 v_l l, cBlk b_2 [v_l] 27, cMk (D10z :: ([])), cBlk nb0_3 [I r00] 3, cBlk nb1_4 [I r10] 3, cBlk nb2_5 [.pointer (some ⟨b_k02, 0, none⟩)] 102, cBlk b_1 [.func (.func 92) #[] #[]] 113]) H rfl rfl rfl Sz35 rfl rfl rfl rfl rfl rfl ?_
  intro w15z H
  refine s_nil ?_
  refine ⟨rfl, [cBlk b_6 [I x3.lo, I x3.hi] 35], H.pick [0, 1, 2, 3, 4, 5, 6, 7] (by decide) rfl, ?_⟩
  clear H hR_
  intro w R hR_ H
  replace hC_k020 := hC_k020.sub hR_
  replace hC_k021 := hC_k021.sub hR_
  replace h_b_k024 := h_b_k024.sub hR_
  replace h_b_k02 := h_b_k02.sub hR_
  replace h_b_k0 := h_b_k0.sub hR_
  replace h_b_k1 := h_b_k1.sub hR_
  replace h_b_k2 := h_b_k2.sub hR_
  replace h_b_k3 := h_b_k3.sub hR_
  replace hM : (zaj l (x2, x3)).Ends r := hM
  simp only [zaj] at hM
  replace H : St w w [cBlk b_6 [I x3.lo, I x3.hi] 35, cOwn (α := Int) 3 v_l l, cBlk b_2 [v_l] 27, cMk (D10z :: ([])), cBlk nb0_3 [I r00] 3, cBlk nb1_4 [I r10] 3, cBlk nb2_5 [.pointer (some ⟨b_k02, 0, none⟩)] 102, cBlk b_1 [.func (.func 92) #[] #[]] 113] R := H
  refine W.block ?_
  refine W.drawT (fun W => St w W [cBlk b_6 [I x3.lo, I x3.hi] 35, cMk (D10z :: ([])), cBlk nb0_3 [I r00] 3, cBlk nb1_4 [I r10] 3, cBlk nb2_5 [.pointer (some ⟨b_k02, 0, none⟩)] 102, cBlk b_1 [.func (.func 92) #[] #[]] 113] R) (.q 1 (.q 2 (.q 3 (.l2 0 (.l 4 (.l 5 (.l 6 (.l 7 .nil)))) 4 (.l2 0 (.l 5 (.l 6 (.l 7 .nil))) 5 (.l 0 (.l 6 (.l 7 .nil)))))))) mixed (by decide +kernel) rfl ?_
  intro w16z hx_
  replace H : St w w16z [cBlk b_6 [I x3.lo, I x3.hi] 35, cOwn (α := Int) 3 v_l l, cBlk b_2 [v_l] 27, cMk (D10z :: ([])), cBlk nb0_3 [I r00] 3, cBlk nb1_4 [I r10] 3, cBlk nb2_5 [.pointer (some ⟨b_k02, 0, none⟩)] 102, cBlk b_1 [.func (.func 92) #[] #[]] 113] R := H.ext hx_
  clear hx_
  refine ⟨(H.pick [0, 3, 4, 5, 6, 7] (by decide) rfl), ?_⟩
  refine t_q rfl (fun w' H => x_fa (a := .pointer (some ⟨b_1, 0, none⟩)) (v := .pointer (some ⟨b_1, 0, none⟩)) rfl (fa_blk (o := 0) Fd113_0 Sz111)) ?_
  refine t_q rfl (fun w' H => x_ld (p := .pointer (some ⟨b_1, 0, none⟩)) (v := .func (.func 92) #[] #[]) rfl (ldb_sc Sc111 (H.blk (k := 5) rfl) rfl)) ?_
  refine t_q rfl (fun w' H => x_ld (p := .pointer (some ⟨b_6, 0, none⟩)) (v := .agg #[I x3.lo, I x3.hi]) rfl (ldb_ag (ds := [I x3.lo, I x3.hi]) Ag35 Sz35 (H.blk (k := 0) rfl) rfl rfl)) ?_
  refine t_l2 rfl rfl ?_ ?_
  ·skip
   refine s_val (x_ld (p := .pointer (some ⟨b_2, 0, none⟩)) (v := v_l) rfl (ldb_sc Sc27 (H.blk (k := 2) rfl) rfl)) ?_
   have hvc_q27z := Sl.cells (ownSl (H.get (k := 1) rfl))
   have hvo_q27z := Sl.oc (ownSl (H.get (k := 1) rfl))
   refine s_nil ⟨(H.pick [0, 3, 4, 5, 6, 7] (by decide) rfl), ?_⟩
   refine t_l rfl ?_
   obtain ⟨r29z, hx28z, hM⟩ := M.e_bind hM
   refine s_callv (f := 92) rfl cf92 [.agg #[I x3.lo, I x3.hi]] rfl (za3 x3 hx28z _ (St.give (T := [cBlk b_6 [I x3.lo, I x3.hi] 35, cOwn (α := Int) 3 v_l l, cBlk b_2 [v_l] 27, cMk (D10z :: ([])), cBlk nb0_3 [I r00] 3, cBlk nb1_4 [I r10] 3, cBlk nb2_5 [.pointer (some ⟨b_k02, 0, none⟩)] 102, cBlk b_1 [.func (.func 92) #[] #[]] 113]) H rfl)) ?_
   rintro vq w30z ⟨r2, hr31z, hvq, H2_⟩
   subst hr31z
   subst vq
   try dsimp only at hM
   replace H : St w w30z [cBlk b_6 [I x3.lo, I x3.hi] 35, cOwn (α := Int) 3 v_l l, cBlk b_2 [v_l] 27, cMk (D10z :: ([])), cBlk nb0_3 [I r00] 3, cBlk nb1_4 [I r10] 3, cBlk nb2_5 [.pointer (some ⟨b_k02, 0, none⟩)] 102, cBlk b_1 [.func (.func 92) #[] #[]] 113] R := H.back H2_ rfl
   clear H2_
   refine s_nil ⟨(H.pick [0, 3, 4, 5, 6, 7] (by decide) rfl), ?_⟩
   refine t_l rfl ?_
   refine t_bs (α := Int) T27 [I r2] [(r2 : Int)] H rfl (.cons rfl (Flat.rep_enc _ (r2 : Int)) <| .nil) rfl rfl rfl ?_
   intro v32z w33z H
   have hvc_q34z := Sl.cells (ownSl (H.get (k := 0) rfl))
   have hvo_q34z := Sl.oc (ownSl (H.get (k := 0) rfl))
   refine s_nil ⟨(H.pick [1, 4, 5, 6, 7, 8] (by decide) rfl), ?_⟩
   refine t_l rfl ?_
   obtain ⟨sd35z, hM⟩ := M.e_grd hM
   simp only [Bool.and_eq_true, decide_eq_true_eq] at sd35z
   refine t_app (α := Int) (k := 2) (l := l) (l2 := [(r2 : Int)]) (l' := l ++ ([(r2 : Int)])) (vy := v32z) T27 rfl H rfl rfl rfl (ownSl (H.get (k := 0) rfl)) (ownLe _ (H.get (k := 0) rfl)) (rfl) (by first | omega | (simp only [List.length_nil] at *; omega)) ?_
   intro v36z w37z H
   replace H : St w w37z [cOwn (α := Int) 3 v32z ([(r2 : Int)]), cBlk b_6 [I x3.lo, I x3.hi] 35, cOwn (α := Int) 3 v36z (l ++ ([(r2 : Int)])), cBlk b_2 [v_l] 27, cMk (D10z :: ([])), cBlk nb0_3 [I r00] 3, cBlk nb1_4 [I r10] 3, cBlk nb2_5 [.pointer (some ⟨b_k02, 0, none⟩)] 102, cBlk b_1 [.func (.func 92) #[] #[]] 113] R := H
   have hvc_q38z := Sl.cells (ownSl (H.get (k := 2) rfl))
   have hvo_q38z := Sl.oc (ownSl (H.get (k := 2) rfl))
   refine s_nil ⟨(H.pick [1, 4, 5, 6, 7, 8] (by decide) rfl), ?_⟩
   refine t_l rfl ?_
   refine t_st (k := 3) (b := b_2) (off := 0) (cs := [v_l]) (vs := [v36z]) (cs' := [v36z]) (v := v36z) (L' := [cOwn (α := Int) 3 v32z ([(r2 : Int)]), cBlk b_6 [I x3.lo, I x3.hi] 35, cOwn (α := Int) 3 v36z (l ++ ([(r2 : Int)])), cBlk b_2 [v36z] 27, cMk (D10z :: ([])), cBlk nb0_3 [I r00] 3, cBlk nb1_4 [I r10] 3, cBlk nb2_5 [.pointer (some ⟨b_k02, 0, none⟩)] 102, cBlk b_1 [.func (.func 92) #[] #[]] 113]) H rfl rfl rfl Sz27 (Sl.cells (ownSl (H.get (k := 2) rfl))) rfl rfl (by simp only [List.all_cons, List.all_nil, Bool.true_and, Bool.and_true, Sl.oc (ownSl (H.get (k := 2) rfl))]; try rfl) rfl rfl ?_
   intro w39z H
   refine s_nil ⟨(H.pick [1, 4, 5, 6, 7, 8] (by decide) rfl), ?_⟩
   refine t_nil ?_
   exact ⟨l ++ ([(r2 : Int)]), [cOwn (α := Int) 3 v36z (l ++ ([(r2 : Int)])), cBlk b_2 [v36z] 27], (M.e_pure hM).symm, ⟨v36z, rfl⟩, H.pick [2, 3, 4, 5, 6, 7, 8] (by decide) rfl⟩
  skip
  obtain ⟨r41z, hx40z, hM⟩ := M.e_bind hM
  refine s_callv (f := 92) rfl cf92 [.agg #[I x3.lo, I x3.hi]] rfl (za3 x3 hx40z _ (St.give (T := [cBlk b_6 [I x3.lo, I x3.hi] 35, cOwn (α := Int) 3 v_l l, cBlk b_2 [v_l] 27, cMk (D10z :: ([])), cBlk nb0_3 [I r00] 3, cBlk nb1_4 [I r10] 3, cBlk nb2_5 [.pointer (some ⟨b_k02, 0, none⟩)] 102, cBlk b_1 [.func (.func 92) #[] #[]] 113]) H rfl)) ?_
  rintro vq w42z ⟨r2, hr43z, hvq, H2_⟩
  subst hr43z
  subst vq
  try dsimp only at hM
  replace H : St w w42z [cBlk b_6 [I x3.lo, I x3.hi] 35, cOwn (α := Int) 3 v_l l, cBlk b_2 [v_l] 27, cMk (D10z :: ([])), cBlk nb0_3 [I r00] 3, cBlk nb1_4 [I r10] 3, cBlk nb2_5 [.pointer (some ⟨b_k02, 0, none⟩)] 102, cBlk b_1 [.func (.func 92) #[] #[]] 113] R := H.back H2_ rfl
  clear H2_
  have hvc_q44z := Sl.cells (ownSl (H.get (k := 1) rfl))
  have hvo_q44z := Sl.oc (ownSl (H.get (k := 1) rfl))
  refine s_nil ⟨(H.pick [0, 3, 4, 5, 6, 7] (by decide) rfl), ?_⟩
  obtain ⟨sd47z, hM⟩ := M.e_grd hM
  simp only [Bool.and_eq_true, decide_eq_true_eq] at sd47z
  refine t_l2 rfl rfl ?_ ?_
  ·skip
   refine s_val (x_ld (p := .pointer (some ⟨b_2, 0, none⟩)) (v := v_l) rfl (ldb_sc Sc27 (H.blk (k := 2) rfl) rfl)) ?_
   refine s_nil ⟨(H.pick [0, 3, 4, 5, 6, 7] (by decide) rfl), ?_⟩
   refine t_l rfl ?_
   refine t_bs (α := Int) T27 [I r2] [(r2 : Int)] H rfl (.cons rfl (Flat.rep_enc _ (r2 : Int)) <| .nil) rfl rfl rfl ?_
   intro v51z w52z H
   have hvc_q53z := Sl.cells (ownSl (H.get (k := 0) rfl))
   have hvo_q53z := Sl.oc (ownSl (H.get (k := 0) rfl))
   refine s_nil ⟨(H.pick [1, 4, 5, 6, 7, 8] (by decide) rfl), ?_⟩
   refine t_l rfl ?_
   refine t_app (α := Int) (k := 2) (l := l) (l2 := [(r2 : Int)]) (l' := l ++ ([(r2 : Int)])) (vy := v51z) T27 rfl H rfl rfl rfl (ownSl (H.get (k := 0) rfl)) (ownLe _ (H.get (k := 0) rfl)) (rfl) (by first | omega | (simp only [List.length_nil] at *; omega)) ?_
   intro v54z w55z H
   replace H : St w w55z [cOwn (α := Int) 3 v51z ([(r2 : Int)]), cBlk b_6 [I x3.lo, I x3.hi] 35, cOwn (α := Int) 3 v54z (l ++ ([(r2 : Int)])), cBlk b_2 [v_l] 27, cMk (D10z :: ([])), cBlk nb0_3 [I r00] 3, cBlk nb1_4 [I r10] 3, cBlk nb2_5 [.pointer (some ⟨b_k02, 0, none⟩)] 102, cBlk b_1 [.func (.func 92) #[] #[]] 113] R := H
   have hvc_q56z := Sl.cells (ownSl (H.get (k := 2) rfl))
   have hvo_q56z := Sl.oc (ownSl (H.get (k := 2) rfl))
   refine s_nil ⟨(H.pick [1, 4, 5, 6, 7, 8] (by decide) rfl), ?_⟩
   refine t_l rfl ?_
   refine t_st (k := 3) (b := b_2) (off := 0) (cs := [v_l]) (vs := [v54z]) (cs' := [v54z]) (v := v54z) (L' := [cOwn (α := Int) 3 v51z ([(r2 : Int)]), cBlk b_6 [I x3.lo, I x3.hi] 35, cOwn (α := Int) 3 v54z (l ++ ([(r2 : Int)])), cBlk b_2 [v54z] 27, cMk (D10z :: ([])), cBlk nb0_3 [I r00] 3, cBlk nb1_4 [I r10] 3, cBlk nb2_5 [.pointer (some ⟨b_k02, 0, none⟩)] 102, cBlk b_1 [.func (.func 92) #[] #[]] 113]) H rfl rfl rfl Sz27 (Sl.cells (ownSl (H.get (k := 2) rfl))) rfl rfl (by simp only [List.all_cons, List.all_nil, Bool.true_and, Bool.and_true, Sl.oc (ownSl (H.get (k := 2) rfl))]; try rfl) rfl rfl ?_
   intro w57z H
   refine s_nil ⟨(H.pick [1, 4, 5, 6, 7, 8] (by decide) rfl), ?_⟩
   refine t_nil ?_
   exact ⟨l ++ ([(r2 : Int)]), [cOwn (α := Int) 3 v54z (l ++ ([(r2 : Int)])), cBlk b_2 [v54z] 27], (M.e_pure hM).symm, ⟨v54z, rfl⟩, H.pick [2, 3, 4, 5, 6, 7, 8] (by decide) rfl⟩
  skip
  refine t_bs (α := Int) T27 [I r2] [(r2 : Int)] H rfl (.cons rfl (Flat.rep_enc _ (r2 : Int)) <| .nil) rfl rfl rfl ?_
  intro v58z w59z H
  have hvc_q60z := Sl.cells (ownSl (H.get (k := 0) rfl))
  have hvo_q60z := Sl.oc (ownSl (H.get (k := 0) rfl))
  refine s_nil ⟨(H.pick [1, 4, 5, 6, 7, 8] (by decide) rfl), ?_⟩
  refine t_l rfl ?_
  refine s_val (x_ld (p := .pointer (some ⟨b_2, 0, none⟩)) (v := v_l) rfl (ldb_sc Sc27 (H.blk (k := 3) rfl) rfl)) ?_
  refine s_nil ⟨(H.pick [1, 4, 5, 6, 7, 8] (by decide) rfl), ?_⟩
  refine t_l rfl ?_
  refine t_app (α := Int) (k := 2) (l := l) (l2 := [(r2 : Int)]) (l' := l ++ ([(r2 : Int)])) (vy := v58z) T27 rfl H rfl rfl rfl (ownSl (H.get (k := 0) rfl)) (ownLe _ (H.get (k := 0) rfl)) (rfl) (by first | omega | (simp only [List.length_nil] at *; omega)) ?_
  intro v61z w62z H
  replace H : St w w62z [cOwn (α := Int) 3 v58z ([(r2 : Int)]), cBlk b_6 [I x3.lo, I x3.hi] 35, cOwn (α := Int) 3 v61z (l ++ ([(r2 : Int)])), cBlk b_2 [v_l] 27, cMk (D10z :: ([])), cBlk nb0_3 [I r00] 3, cBlk nb1_4 [I r10] 3, cBlk nb2_5 [.pointer (some ⟨b_k02, 0, none⟩)] 102, cBlk b_1 [.func (.func 92) #[] #[]] 113] R := H
  have hvc_q63z := Sl.cells (ownSl (H.get (k := 2) rfl))
  have hvo_q63z := Sl.oc (ownSl (H.get (k := 2) rfl))
  refine s_nil ⟨(H.pick [1, 4, 5, 6, 7, 8] (by decide) rfl), ?_⟩
  refine t_l rfl ?_
  refine t_st (k := 3) (b := b_2) (off := 0) (cs := [v_l]) (vs := [v61z]) (cs' := [v61z]) (v := v61z) (L' := [cOwn (α := Int) 3 v58z ([(r2 : Int)]), cBlk b_6 [I x3.lo, I x3.hi] 35, cOwn (α := Int) 3 v61z (l ++ ([(r2 : Int)])), cBlk b_2 [v61z] 27, cMk (D10z :: ([])), cBlk nb0_3 [I r00] 3, cBlk nb1_4 [I r10] 3, cBlk nb2_5 [.pointer (some ⟨b_k02, 0, none⟩)] 102, cBlk b_1 [.func (.func 92) #[] #[]] 113]) H rfl rfl rfl Sz27 (Sl.cells (ownSl (H.get (k := 2) rfl))) rfl rfl (by simp only [List.all_cons, List.all_nil, Bool.true_and, Bool.and_true, Sl.oc (ownSl (H.get (k := 2) rfl))]; try rfl) rfl rfl ?_
  intro w64z H
  refine s_nil ⟨(H.pick [1, 4, 5, 6, 7, 8] (by decide) rfl), ?_⟩
  refine t_nil ?_
  exact ⟨l ++ ([(r2 : Int)]), [cOwn (α := Int) 3 v61z (l ++ ([(r2 : Int)])), cBlk b_2 [v61z] 27], (M.e_pure hM).symm, ⟨v61z, rfl⟩, H.pick [2, 3, 4, 5, 6, 7, 8] (by decide) rfl⟩
 replace H : St w w12z (cAll (cObj l9z (.loop r11z) :: [cOwn (α := Int) 3 (.slice none 0 0) ([]), cBlk b_2 [(.slice none 0 0)] 27]) :: [cMk (D10z :: ([])), cBlk nb0_3 [I r00] 3, cBlk nb1_4 [I r10] 3, cBlk nb2_5 [.pointer (some ⟨b_k02, 0, none⟩)] 102, cBlk b_1 [.func (.func 92) #[] #[]] 113]) R := St.bundleB (A := cObj l9z (.loop r11z) :: [cOwn (α := Int) 3 (.slice none 0 0) ([]), cBlk b_2 [(.slice none 0 0)] 27]) (T := [cMk (D10z :: ([])), cBlk nb0_3 [I r00] 3, cBlk nb1_4 [I r10] 3, cBlk nb2_5 [.pointer (some ⟨b_k02, 0, none⟩)] 102, cBlk b_1 [.func (.func 92) #[] #[]] 113]) rfl (H.pick [0, 2, 3, 1, 4, 5, 6, 7] (by decide) rfl)
 refine (zbf (M.yl zaj) (.inl ([])) r00 r10 k020 k021 k022 k023 k024 hYC ⟨_, rfl, ⟨(.slice none 0 0), rfl⟩⟩ (Has.here (k := 1) rfl) (Has.here (k := 2) rfl) (hC_k020.app _) hs_k020 (hC_k021.app _) hs_k021 (h_b_k024.app _) (h_b_k02.app _) (Has.here (k := 3) rfl) hx8z _ (St.give (A := [cAll (cObj l9z (.loop r11z) :: [cOwn (α := Int) 3 (.slice none 0 0) ([]), cBlk b_2 [(.slice none 0 0)] 27])]) (T := [cMk (D10z :: ([])), cBlk nb0_3 [I r00] 3, cBlk nb1_4 [I r10] 3, cBlk nb2_5 [.pointer (some ⟨b_k02, 0, none⟩)] 102, cBlk b_1 [.func (.func 92) #[] #[]] 113]) H rfl)).mono ?_
 rintro vq w65z ⟨t69z, Ls67z, hq70z, hvq, H2_, hY68z⟩
 subst hq70z
 replace H := H.back H2_ rfl
 clear H2_ hYC
 rcases t69z with l | _
 ·try dsimp only at hM
  obtain ⟨_, rfl, v_l, rfl⟩ := hY68z
  refine ⟨_, [cOwn (α := Int) 3 v_l l, cBlk b_2 [v_l] 27, cBlk nb0_3 [I r00] 3, cBlk nb1_4 [I r10] 3, cBlk nb2_5 [.pointer (some ⟨b_k02, 0, none⟩)] 102, cBlk b_1 [.func (.func 92) #[] #[]] 113], H.unbundle.pick [0, 3, 1, 2, 4, 5, 6, 7] (by decide) rfl, hr13z.nb, ?_⟩
  intro w66z H
  rw [hr13z.pd]
  replace H : St w w66z [cMk (D10z :: ([])), cOwn (α := Int) 3 v_l l, cBlk b_2 [v_l] 27, cBlk nb0_3 [I r00] 3, cBlk nb1_4 [I r10] 3, cBlk nb2_5 [.pointer (some ⟨b_k02, 0, none⟩)] 102, cBlk b_1 [.func (.func 92) #[] #[]] 113] R := H
  try simp only []
  refine WD.seq ?_
  refine WD.of ?_
  refine W.region rfl ?_
  refine s_val (x_ld (p := .pointer (some ⟨b_2, 0, none⟩)) (v := v_l) rfl (ldb_sc Sc27 (H.blk (k := 2) rfl) rfl)) ?_
  obtain ⟨sd72z, hM⟩ := M.e_grd hM
  simp only [Bool.and_eq_true, decide_eq_true_eq] at sd72z
  refine s_call cf59 [v_l] rfl (sort_any (H.get (k := 1) rfl) (by omega)) ?_
  rintro _ w71z ⟨rfl, ho_, kp_, hs_⟩
  replace H : St w w71z [cMk (D10z :: ([])), cOwn (α := Int) 3 v_l (isort l), cBlk b_2 [v_l] 27, cBlk nb0_3 [I r00] 3, cBlk nb1_4 [I r10] 3, cBlk nb2_5 [.pointer (some ⟨b_k02, 0, none⟩)] 102, cBlk b_1 [.func (.func 92) #[] #[]] 113] R := H.sorted (k := 1) rfl ho_ kp_ hs_ rfl
  clear ho_ kp_ hs_
  refine s_nil ?_
  refine WD.seq ?_
  refine WD.of ?_
  refine W.region rfl ?_
  refine s_val (x_ld (p := .pointer (some ⟨b_2, 0, none⟩)) (v := v_l) rfl (ldb_sc Sc27 (H.blk (k := 2) rfl) rfl)) ?_
  refine s_val (x_ld (p := .pointer (some ⟨b_2, 0, none⟩)) (v := v_l) rfl (ldb_sc Sc27 (H.blk (k := 2) rfl) rfl)) ?_
  have hl73z := ((ownSl (H.get (k := 1) rfl))).len_le
  refine s_val (x_lenS T27.und rfl (ownSl (H.get (k := 1) rfl))) ?_
  refine s_val (x_ld (p := .pointer (some ⟨b_k3, 0, none⟩)) (v := I k32) rfl (ldb_sc Sc3 (h_b_k3.blk H) rfl)) ?_
  obtain ⟨sd74z, hM⟩ := M.e_grd hM
  simp only [Bool.and_eq_true, decide_eq_true_eq] at sd74z
  refine s_val (x_ari (a := ((isort l).length : Int)) (b := k32) (r := ((isort l).length : Int) - k32) rfl rfl rfl (by omega)) ?_
  obtain ⟨sd75z, hM⟩ := M.e_grd hM
  simp only [Bool.and_eq_true, decide_eq_true_eq] at sd75z
  refine s_val (x_ix (a := v_l) (b := I (((isort l).length : Int) - k32)) (v := vat v_l 1 (Int.toNat (((isort l).length : Int) - k32))) rfl rfl (Sl.ix (α := Int) T27.und T27.size (ownSl (H.get (k := 1) rfl)) (by omega) (by omega))) ?_
  refine s_val (x_ld (p := vat v_l 1 (Int.toNat (((isort l).length : Int) - k32))) (v := I ((isort l).getD (Int.toNat (((isort l).length : Int) - k32)) 0)) rfl (ld_sc Sc3 (At.mono (Int_at (ownSl (H.get (k := 1) rfl)) (i := ((isort l).length : Int) - k32) (by omega) (by omega)) (ownLe _ (H.get (k := 1) rfl))))) ?_
  refine s_val (x_as (v := I ((isort l).getD (Int.toNat (((isort l).length : Int) - k32)) 0)) rfl) ?_
  refine s_nil ?_
  refine WD.of ?_
  refine W.ret ?_
  refine bodyD_r (H.pick [0, 1, 2, 3, 4, 5, 6] (by decide) rfl) ?_
  intro w76z H
  replace H : St w w76z [cOwn (α := Int) 3 v_l (isort l), cBlk b_2 [v_l] 27, cBlk nb0_3 [I r00] 3, cBlk nb1_4 [I r10] 3, cBlk nb2_5 [.pointer (some ⟨b_k02, 0, none⟩)] 102, cBlk b_1 [.func (.func 92) #[] #[]] 113] R := H
  have hr_ := M.e_pure hM
  exact ⟨_, resE_tmp rfl, ⟨((isort l).getD (Int.toNat (((isort l).length : Int) - k32)) 0), hr_, rfl, (H.pick [] (by decide) rfl)⟩⟩
 obtain ⟨_, _, h_⟩ := hY68z; exact h_.elim

def zai (b_Years : List Yr) (b_Olds : List Old10) (b_First : Int) (b_Last : Int) (from_ : Int) (to_ : Int) (times : Int) : M (Int × Int × Int) :=
  M.bind (zaG b_Years b_Olds b_First b_Last from_ to_ times 1 (wr64 ((wr64 (to_ - from_)) + 1))) fun x_ => match x_ with
  | (.inl r1) => (
  bif r1 != 0 then (
  M.pure (0, 0, r1))
  else (
  M.fail))
  | (.inr (r02, r03, r04, r12)) => (
  bif r12 != 0 then (
  M.fail)
  else (
  M.bind (zbB) fun (_ : Unit) =>
  M.bind (zaE b_Years b_Olds r02 r03 r04 from_ to_ times) fun r2 =>
  M.bind (za8) fun (_ : Unit) =>
  M.bind (zaP b_Years b_Olds r02 r03 r04 from_ to_ times) fun r3 =>
  M.pure (r2, r3, 0)))
theorem zbu {R : List Chunk} {C_b_Years : Cells} {v_b_Years : Value} {C_b_Olds : Cells} {v_b_Olds : Value} (b_Years : List Yr) (b_Olds : List Old10) (b_First : Int) (b_Last : Int) (from_ : Int) (to_ : Int) (times : Int) (hC_b_Years : Reads R C_b_Years) (hs_b_Years : Sl C_b_Years v_b_Years b_Years) (hC_b_Olds : Reads R C_b_Olds) (hs_b_Olds : Sl C_b_Olds v_b_Olds b_Olds) {r : (Int × Int × Int)} (hM : (zai b_Years b_Olds b_First b_Last from_ to_ times).Ends r) (w : World) (H : St w w [] R) : Ret Try.prog 17 #[.agg #[v_b_Years, v_b_Olds, I b_First, I b_Last], I from_, I to_, I times] w fun v w' => ∃ (y0 : Int) (y1 : Int) (y2 : Int), (y0, y1, y2) = r /\ v = .tuple #[.agg #[I y0, I y1], I y2] /\ St w w' [] R := by
 refine ret_of_W Try.func17 rfl rfl rfl ?_
 refine W.seq ?_
 refine W.region rfl ?_
 refine t_box (v := .agg #[v_b_Years, v_b_Olds, I b_First, I b_Last]) (cs := [v_b_Years, v_b_Olds, I b_First, I b_Last]) H rfl rfl ?_
 intro b_1 w1z H
 refine t_box (v := I from_) (cs := [I from_]) H rfl rfl ?_
 intro b_2 w2z H
 refine t_box (v := I to_) (cs := [I to_]) H rfl rfl ?_
 intro b_3 w3z H
 refine t_box (v := I times) (cs := [I times]) H rfl rfl ?_
 intro b_4 w4z H
 refine t_alloc (cs := [I 0, I 0]) H Al35 rfl ?_
 intro b_5 w5z H
 refine s_val (x_as (v := I 0) rfl) ?_
 refine s_nil ?_
 refine W.seq ?_
 refine W.region rfl ?_
 refine s_val (x_ld (p := .pointer (some ⟨b_1, 0, none⟩)) (v := .agg #[v_b_Years, v_b_Olds, I b_First, I b_Last]) rfl (ldb_ag (ds := [v_b_Years, v_b_Olds, I b_First, I b_Last]) Ag26 Sz26 (H.blk (k := 4) rfl) rfl rfl)) ?_
 refine s_val (x_ld (p := .pointer (some ⟨b_2, 0, none⟩)) (v := I from_) rfl (ldb_sc Sc3 (H.blk (k := 3) rfl) rfl)) ?_
 refine s_val (x_ld (p := .pointer (some ⟨b_3, 0, none⟩)) (v := I to_) rfl (ldb_sc Sc3 (H.blk (k := 2) rfl) rfl)) ?_
 refine s_val (x_ld (p := .pointer (some ⟨b_4, 0, none⟩)) (v := I times) rfl (ldb_sc Sc3 (H.blk (k := 1) rfl) rfl)) ?_
 refine s_val (x_ld (p := .pointer (some ⟨b_3, 0, none⟩)) (v := I to_) rfl (ldb_sc Sc3 (H.blk (k := 2) rfl) rfl)) ?_
 refine s_val (x_ld (p := .pointer (some ⟨b_2, 0, none⟩)) (v := I from_) rfl (ldb_sc Sc3 (H.blk (k := 3) rfl) rfl)) ?_
 refine s_val (x_subW (a := to_) (b := from_) rfl rfl) ?_
 refine s_val (x_addW (a := wr64 (to_ - from_)) (b := 1) rfl rfl) ?_
 obtain ⟨r7z, hx6z, hM⟩ := M.e_bind hM
 refine s_call cf52 [.agg #[v_b_Years, v_b_Olds, I b_First, I b_Last], I from_, I to_, I times, I 1, I (wr64 ((wr64 (to_ - from_)) + 1))] rfl (zb5 b_Years b_Olds b_First b_Last from_ to_ times 1 (wr64 ((wr64 (to_ - from_)) + 1)) (hC_b_Years.app _) hs_b_Years (hC_b_Olds.app _) hs_b_Olds hx6z _ (St.give (T := [cBlk b_5 [I 0, I 0] 35, cBlk b_4 [I times] 3, cBlk b_3 [I to_] 3, cBlk b_2 [I from_] 3, cBlk b_1 [v_b_Years, v_b_Olds, I b_First, I b_Last] 26]) H rfl)) ?_
 rintro vq w8z (⟨r1, hr9z, hvq, H2_⟩ | ⟨r02, r03, r04, r12, nb0_6, nb1_7, hr10z, hvq, H2_⟩)
 ·subst hr9z
  subst vq
  try dsimp only at hM
  replace H : St w w8z [cBlk b_5 [I 0, I 0] 35, cBlk b_4 [I times] 3, cBlk b_3 [I to_] 3, cBlk b_2 [I from_] 3, cBlk b_1 [v_b_Years, v_b_Olds, I b_First, I b_Last] 26] R := H.back H2_ rfl
  clear H2_
  refine s_val (x_mv (v := .tuple #[.pointer none, I r1]) rfl) ?_
  refine s_val (x_ext (vs := [.pointer none, I r1]) (v := .pointer none) rfl rfl) ?_
  refine s_val (x_ext (vs := [.pointer none, I r1]) (v := I r1) rfl rfl) ?_
  refine t_alloc (cs := [.pointer none]) H Al102 rfl ?_
  intro b_8 w11z H
  refine t_st (k := 0) (b := b_8) (off := 0) (cs := [.pointer none]) (vs := [.pointer none]) (cs' := [.pointer none]) (v := .pointer none) (L' := [cBlk b_8 [.pointer none] 102, cBlk b_5 [I 0, I 0] 35, cBlk b_4 [I times] 3, cBlk b_3 [I to_] 3, cBlk b_2 [I from_] 3, cBlk b_1 [v_b_Years, v_b_Olds, I b_First, I b_Last] 26]) H rfl rfl rfl Sz102 rfl rfl rfl rfl rfl rfl ?_
  intro w12z H
  refine s_val (x_as (v := I r1) rfl) ?_
  refine s_nil ?_
  refine W.seq ?_
  refine W.seq ?_
  refine W.region rfl ?_
  refine s_val (x_mv (v := I r1) rfl) ?_
  refine s_val (x_cmp (kd := .i64) (a := r1) (b := 0) (r := r1 != 0) rfl rfl rfl) ?_
  refine s_nil ?_
  refine W.cond (r1 != 0) rfl (fun c13z => ?_) (fun c13z => ?_)
  ·replace hM := M.e_t hM c13z
   simp only [decide_eq_true_eq, decide_eq_false_iff_not, beq_iff_eq, bne_iff_ne, beq_eq_false_iff_ne, bne_eq_false_iff_eq, ne_eq, Decidable.not_not] at c13z
   refine W.seq ?_
   refine W.region rfl ?_
   refine s_val (x_bld (ps := []) (zs := [I 0, I 0]) (L' := [I 0, I 0]) rfl Try.underlying35 Al35 rfl (Bd35 Try.underlying35) (.nil)) ?_
   refine s_val (x_mv (v := I r1) rfl) ?_
   refine t_st (k := 1) (b := b_5) (off := 0) (cs := [I 0, I 0]) (vs := [I 0, I 0]) (cs' := [I 0, I 0]) (v := .agg #[I 0, I 0]) (L' := [cBlk b_8 [.pointer none] 102, cBlk b_5 [I 0, I 0] 35, cBlk b_4 [I times] 3, cBlk b_3 [I to_] 3, cBlk b_2 [I from_] 3, cBlk b_1 [v_b_Years, v_b_Olds, I b_First, I b_Last] 26]) H rfl rfl rfl Sz35 rfl rfl rfl rfl rfl rfl ?_
   intro w14z H
   refine s_val (x_as (v := I r1) rfl) ?_
   refine s_nil ?_
   refine W.ret ?_
   have hb15z := (H.blk (k := 1) rfl)
   have hr_ := M.e_pure hM
   exact ⟨_, (resE_ofn (vs := [.agg #[I 0, I 0], I r1]) rfl rfl (.cell (v := .agg #[I 0, I 0]) rfl (run_loadVar_ag (ds := [I 0, I 0]) Ag35 Sz35 hb15z rfl rfl) <| .tmp (v := I r1) rfl <| .nil)), ⟨0, 0, r1, hr_, rfl, (H.pick [] (by decide) rfl)⟩⟩
  replace hM := M.e_f hM c13z
  exact (M.e_fail hM).elim
 subst hr10z
 subst vq
 try dsimp only at hM
 replace H : St w w8z [cBlk nb0_6 [v_b_Years, v_b_Olds, I r02, I r03, .map (some nb1_7)] 126, cMl I encSp nb1_7 r04, cBlk b_5 [I 0, I 0] 35, cBlk b_4 [I times] 3, cBlk b_3 [I to_] 3, cBlk b_2 [I from_] 3, cBlk b_1 [v_b_Years, v_b_Olds, I b_First, I b_Last] 26] R := H.back H2_ rfl
 clear H2_
 refine s_val (x_mv (v := .tuple #[.pointer (some ⟨nb0_6, 0, none⟩), I r12]) rfl) ?_
 refine s_val (x_ext (vs := [.pointer (some ⟨nb0_6, 0, none⟩), I r12]) (v := .pointer (some ⟨nb0_6, 0, none⟩)) rfl rfl) ?_
 refine s_val (x_ext (vs := [.pointer (some ⟨nb0_6, 0, none⟩), I r12]) (v := I r12) rfl rfl) ?_
 refine t_alloc (cs := [.pointer none]) H Al102 rfl ?_
 intro b_8 w16z H
 refine t_st (k := 0) (b := b_8) (off := 0) (cs := [.pointer none]) (vs := [.pointer (some ⟨nb0_6, 0, none⟩)]) (cs' := [.pointer (some ⟨nb0_6, 0, none⟩)]) (v := .pointer (some ⟨nb0_6, 0, none⟩)) (L' := [cBlk b_8 [.pointer (some ⟨nb0_6, 0, none⟩)] 102, cBlk nb0_6 [v_b_Years, v_b_Olds, I r02, I r03, .map (some nb1_7)] 126, cMl I encSp nb1_7 r04, cBlk b_5 [I 0, I 0] 35, cBlk b_4 [I times] 3, cBlk b_3 [I to_] 3, cBlk b_2 [I from_] 3, cBlk b_1 [v_b_Years, v_b_Olds, I b_First, I b_Last] 26]) H rfl rfl rfl Sz102 rfl rfl rfl rfl rfl rfl ?_
 intro w17z H
 refine s_val (x_as (v := I r12) rfl) ?_
 refine s_nil ?_
 refine W.seq ?_
 refine W.seq ?_
 refine W.region rfl ?_
 refine s_val (x_mv (v := I r12) rfl) ?_
 refine s_val (x_cmp (kd := .i64) (a := r12) (b := 0) (r := r12 != 0) rfl rfl rfl) ?_
 refine s_nil ?_
 refine W.cond (r12 != 0) rfl (fun c18z => ?_) (fun c18z => ?_)
 ·replace hM := M.e_t hM c18z
  exact (M.e_fail hM).elim
 replace hM := M.e_f hM c18z
 simp only [decide_eq_true_eq, decide_eq_false_iff_not, beq_iff_eq, bne_iff_ne, beq_eq_false_iff_ne, bne_eq_false_iff_eq, ne_eq, Decidable.not_not] at c18z
 refine W.skip ?_
 refine W.seq ?_
 refine W.region rfl ?_
 refine s_val (x_mf (fs := []) (cs := [.pointer (some ⟨b_8, 0, none⟩), .pointer (some ⟨b_2, 0, none⟩), .pointer (some ⟨b_3, 0, none⟩), .pointer (some ⟨b_4, 0, none⟩)]) rfl rfl) ?_
 refine s_val (x_as (v := .func (.func 58) #[] #[.pointer (some ⟨b_8, 0, none⟩), .pointer (some ⟨b_2, 0, none⟩), .pointer (some ⟨b_3, 0, none⟩), .pointer (some ⟨b_4, 0, none⟩)]) rfl) ?_
 refine s_nil ?_
 refine W.seq ?_
 refine W.region rfl ?_
 refine s_val (x_mv (v := .func (.func 58) #[] #[.pointer (some ⟨b_8, 0, none⟩), .pointer (some ⟨b_2, 0, none⟩), .pointer (some ⟨b_3, 0, none⟩), .pointer (some ⟨b_4, 0, none⟩)]) rfl) ?_
 obtain ⟨r20z, hx19z, hM⟩ := M.e_bind hM
 refine s_call cf55 [] rfl (zb9 hx19z _ (St.give (T := [cBlk b_8 [.pointer (some ⟨nb0_6, 0, none⟩)] 102, cBlk nb0_6 [v_b_Years, v_b_Olds, I r02, I r03, .map (some nb1_7)] 126, cMl I encSp nb1_7 r04, cBlk b_5 [I 0, I 0] 35, cBlk b_4 [I times] 3, cBlk b_3 [I to_] 3, cBlk b_2 [I from_] 3, cBlk b_1 [v_b_Years, v_b_Olds, I b_First, I b_Last] 26]) H rfl)) ?_
 rintro vq w21z ⟨hr22z, hvq, H2_⟩
 subst hr22z
 subst vq
 try dsimp only at hM
 replace H : St w w21z [cBlk b_8 [.pointer (some ⟨nb0_6, 0, none⟩)] 102, cBlk nb0_6 [v_b_Years, v_b_Olds, I r02, I r03, .map (some nb1_7)] 126, cMl I encSp nb1_7 r04, cBlk b_5 [I 0, I 0] 35, cBlk b_4 [I times] 3, cBlk b_3 [I to_] 3, cBlk b_2 [I from_] 3, cBlk b_1 [v_b_Years, v_b_Olds, I b_First, I b_Last] 26] R := H.back H2_ rfl
 clear H2_
 obtain ⟨r24z, hx23z, hM⟩ := M.e_bind hM
 refine s_callv (f := 58) rfl cf58 [.agg #[.func (.func 91) #[] #[]]] rfl (zcI b_Years b_Olds r02 r03 r04 from_ to_ times (hC_b_Years.app _) hs_b_Years (hC_b_Olds.app _) hs_b_Olds (Has.here (k := 2) rfl) (Has.here (k := 1) rfl) (Has.here (k := 0) rfl) (Has.here (k := 6) rfl) (Has.here (k := 5) rfl) (Has.here (k := 4) rfl) hx23z _ (St.give (T := [cBlk b_8 [.pointer (some ⟨nb0_6, 0, none⟩)] 102, cBlk nb0_6 [v_b_Years, v_b_Olds, I r02, I r03, .map (some nb1_7)] 126, cMl I encSp nb1_7 r04, cBlk b_5 [I 0, I 0] 35, cBlk b_4 [I times] 3, cBlk b_3 [I to_] 3, cBlk b_2 [I from_] 3, cBlk b_1 [v_b_Years, v_b_Olds, I b_First, I b_Last] 26]) H rfl)) ?_
 rintro vq w25z ⟨r2, hr26z, hvq, H2_⟩
 subst hr26z
 subst vq
 try dsimp only at hM
 replace H : St w w25z [cBlk b_8 [.pointer (some ⟨nb0_6, 0, none⟩)] 102, cBlk nb0_6 [v_b_Years, v_b_Olds, I r02, I r03, .map (some nb1_7)] 126, cMl I encSp nb1_7 r04, cBlk b_5 [I 0, I 0] 35, cBlk b_4 [I times] 3, cBlk b_3 [I to_] 3, cBlk b_2 [I from_] 3, cBlk b_1 [v_b_Years, v_b_Olds, I b_First, I b_Last] 26] R := H.back H2_ rfl
 clear H2_
 refine s_val (x_mv (v := .func (.func 58) #[] #[.pointer (some ⟨b_8, 0, none⟩), .pointer (some ⟨b_2, 0, none⟩), .pointer (some ⟨b_3, 0, none⟩), .pointer (some ⟨b_4, 0, none⟩)]) rfl) ?_
 obtain ⟨r28z, hx27z, hM⟩ := M.e_bind hM
 refine s_call cf56 [] rfl (zbI hx27z _ (St.give (T := [cBlk b_8 [.pointer (some ⟨nb0_6, 0, none⟩)] 102, cBlk nb0_6 [v_b_Years, v_b_Olds, I r02, I r03, .map (some nb1_7)] 126, cMl I encSp nb1_7 r04, cBlk b_5 [I 0, I 0] 35, cBlk b_4 [I times] 3, cBlk b_3 [I to_] 3, cBlk b_2 [I from_] 3, cBlk b_1 [v_b_Years, v_b_Olds, I b_First, I b_Last] 26]) H rfl)) ?_
 rintro vq w29z ⟨hr30z, hvq, H2_⟩
 subst hr30z
 subst vq
 try dsimp only at hM
 replace H : St w w29z [cBlk b_8 [.pointer (some ⟨nb0_6, 0, none⟩)] 102, cBlk nb0_6 [v_b_Years, v_b_Olds, I r02, I r03, .map (some nb1_7)] 126, cMl I encSp nb1_7 r04, cBlk b_5 [I 0, I 0] 35, cBlk b_4 [I times] 3, cBlk b_3 [I to_] 3, cBlk b_2 [I from_] 3, cBlk b_1 [v_b_Years, v_b_Olds, I b_First, I b_Last] 26] R := H.back H2_ rfl
 clear H2_
 obtain ⟨r32z, hx31z, hM⟩ := M.e_bind hM
 refine s_callv (f := 58) rfl cf58 [.agg #[.func (.func 92) #[] #[]]] rfl (zce b_Years b_Olds r02 r03 r04 from_ to_ times (hC_b_Years.app _) hs_b_Years (hC_b_Olds.app _) hs_b_Olds (Has.here (k := 2) rfl) (Has.here (k := 1) rfl) (Has.here (k := 0) rfl) (Has.here (k := 6) rfl) (Has.here (k := 5) rfl) (Has.here (k := 4) rfl) hx31z _ (St.give (T := [cBlk b_8 [.pointer (some ⟨nb0_6, 0, none⟩)] 102, cBlk nb0_6 [v_b_Years, v_b_Olds, I r02, I r03, .map (some nb1_7)] 126, cMl I encSp nb1_7 r04, cBlk b_5 [I 0, I 0] 35, cBlk b_4 [I times] 3, cBlk b_3 [I to_] 3, cBlk b_2 [I from_] 3, cBlk b_1 [v_b_Years, v_b_Olds, I b_First, I b_Last] 26]) H rfl)) ?_
 rintro vq w33z ⟨r3, hr34z, hvq, H2_⟩
 subst hr34z
 subst vq
 try dsimp only at hM
 replace H : St w w33z [cBlk b_8 [.pointer (some ⟨nb0_6, 0, none⟩)] 102, cBlk nb0_6 [v_b_Years, v_b_Olds, I r02, I r03, .map (some nb1_7)] 126, cMl I encSp nb1_7 r04, cBlk b_5 [I 0, I 0] 35, cBlk b_4 [I times] 3, cBlk b_3 [I to_] 3, cBlk b_2 [I from_] 3, cBlk b_1 [v_b_Years, v_b_Olds, I b_First, I b_Last] 26] R := H.back H2_ rfl
 clear H2_
 refine s_val (x_bld (ps := [(0, I r2), (1, I r3)]) (zs := [I 0, I 0]) (L' := [I r2, I r3]) rfl Try.underlying35 Al35 rfl (Bd35 Try.underlying35) (.cons (cs := [I r2]) rfl rfl rfl rfl rfl <| .cons (cs := [I r3]) rfl rfl rfl rfl rfl <| .nil)) ?_
 refine t_st (k := 3) (b := b_5) (off := 0) (cs := [I 0, I 0]) (vs := [I r2, I r3]) (cs' := [I r2, I r3]) (v := .agg #[I r2, I r3]) (L' := [cBlk b_8 [.pointer (some ⟨nb0_6, 0, none⟩)] 102, cBlk nb0_6 [v_b_Years, v_b_Olds, I r02, I r03, .map (some nb1_7)] 126, cMl I encSp nb1_7 r04, cBlk b_5 [I r2, I r3] 35, cBlk b_4 [I times] 3, cBlk b_3 [I to_] 3, cBlk b_2 [I from_] 3, cBlk b_1 [v_b_Years, v_b_Olds, I b_First, I b_Last] 26]) H rfl rfl rfl Sz35 rfl rfl rfl rfl rfl rfl ?_
 intro w35z H
 refine s_val (x_as (v := I 0) rfl) ?_
 refine s_nil ?_
 refine W.ret ?_
 have hb36z := (H.blk (k := 3) rfl)
 have hr_ := M.e_pure hM
 exact ⟨_, (resE_ofn (vs := [.agg #[I r2, I r3], I 0]) rfl rfl (.cell (v := .agg #[I r2, I r3]) rfl (run_loadVar_ag (ds := [I r2, I r3]) Ag35 Sz35 hb36z rfl rfl) <| .tmp (v := I 0) rfl <| .nil)), ⟨r2, r3, 0, hr_, rfl, (H.pick [] (by decide) rfl)⟩⟩

def zbt : M Bool :=
  M.bind (zaL) fun r2 =>
  M.bind (zbR r2 7 200) fun (r0, r1, r22) =>
  M.bind (zaL) fun r3 =>
  M.bind (zbQ r3 7 200 ([(1 : Int), (3 : Int)])) fun (r02, r12) =>
  M.bind (zaL) fun r4 =>
  M.bind (zbO r4 7 200 300 ([(0 : Int), (100 : Int), (120 : Int), (80 : Int)])) fun (r03, r13) =>
  M.bind (zaL) fun r5 =>
  M.bind (zbO r5 7 200 300 ([(0 : Int), (99 : Int), (120 : Int), (80 : Int)])) fun (r04, r14) =>
  M.bind (M.opt (!((((r22 != 0) || (r12 != 0)) || (r13 != 0)) || (r14 != 0))) (zb7 r0 ([(0 : Int), (2 : Int), (3 : Int)])) false) fun r6 =>
  bif (((((((((r22 != 0) || (r12 != 0)) || (r13 != 0)) || (r14 != 0)) || (!r6)) || (r1 != 300)) || (r02 != 230)) || (!r03)) || r04) then (
  M.pure false)
  else (
  M.bind (zaF) fun (r05, r15, r23, r32) =>
  M.bind (zae r05 r15 r23 r32 1900 1909 500) fun (r00, r01, r16) =>
  M.bind (zaF) fun (r06, r17, r24, r33) =>
  M.bind (zae r06 r17 r24 r33 1900 1909 410) fun (r002, r012, r18) =>
  M.bind (zaF) fun (r07, r19, r25, r34) =>
  M.bind (zb3 r07 r19 r25 r34 410) fun (r003, r013, r10, r11, r26) =>
  M.bind (zaF) fun (r08, r110, r27, r35) =>
  M.bind (zai r08 r110 r27 r35 1900 1906 2) fun (r004, r014, r111) =>
  M.pure (((((((((r16 == 0) && (r18 == 0)) && (r26 == 0)) && (r111 == 0)) && (decide ((⟨(r00 : Int), (r01 : Int)⟩ : Span) = (⟨(1 : Int), (4 : Int)⟩ : Span)))) && (decide ((⟨(r002 : Int), (r012 : Int)⟩ : Span) = (⟨(1 : Int), (9 : Int)⟩ : Span)))) && (decide ((⟨(r003 : Int), (r013 : Int)⟩ : Rto) = (⟨(1 : Int), (10 : Int)⟩ : Rto)))) && (decide ((⟨(r10 : Int), (r11 : Int)⟩ : Rto) = (⟨(9 : Int), (10 : Int)⟩ : Rto)))) && (decide ((⟨(r004 : Int), (r014 : Int)⟩ : Span) = (⟨(400 : Int), (499 : Int)⟩ : Span)))))
theorem zcy {R : List Chunk}    {r : Bool} (hM : (zbt).Ends r) (w : World) (H : St w w [] R) : Ret Try.prog 18 #[] w fun v w' => ∃ (y0 : Bool), y0 = r /\ v = B y0 /\ St w w' [] R := by
 refine ret_of_W Try.func18 rfl rfl rfl ?_
 refine W.seq ?_
 refine W.region rfl ?_
 refine s_val (x_as (v := B false) rfl) ?_
 refine s_nil ?_
 refine W.seq ?_
 refine W.region rfl ?_
 obtain ⟨r2z, hx1z, hM⟩ := M.e_bind hM
 refine s_call cf60 [] rfl (za5 hx1z _ (St.give (T := []) H rfl)) ?_
 rintro vq w3z ⟨r2, u0_1, hr4z, hvq, H2_⟩
 subst hr4z
 subst vq
 try dsimp only at hM
 replace H : St w w3z [cOwn (α := Pk) 72 u0_1 r2] R := H.back H2_ rfl
 clear H2_
 obtain ⟨r6z, hx5z, hM⟩ := M.e_bind hM
 refine s_call cf37 [u0_1, I 7, I 200] rfl (zcG r2 7 200 (Reads.of (k := 0) rfl ownLe) (ownSl (H.get (k := 0) rfl)) hx5z _ (St.give (T := [cOwn (α := Pk) 72 u0_1 r2]) H rfl)) ?_
 rintro vq w7z ⟨r0, r1, r22, u0_2, hr8z, hvq, H2_⟩
 subst hr8z
 subst vq
 try dsimp only at hM
 replace H : St w w7z [cOwn (α := Int) 3 u0_2 r0, cOwn (α := Pk) 72 u0_1 r2] R := H.back H2_ rfl
 clear H2_
 refine s_val (x_mv (v := .tuple #[u0_2, I r1, I r22]) rfl) ?_
 refine s_val (x_ext (vs := [u0_2, I r1, I r22]) (v := u0_2) rfl rfl) ?_
 refine s_val (x_ext (vs := [u0_2, I r1, I r22]) (v := I r1) rfl rfl) ?_
 refine s_val (x_ext (vs := [u0_2, I r1, I r22]) (v := I r22) rfl rfl) ?_
 refine s_val (x_as (v := u0_2) rfl) ?_
 refine s_val (x_as (v := I r1) rfl) ?_
 refine s_val (x_as (v := I r22) rfl) ?_
 refine s_nil ?_
 refine W.seq ?_
 refine W.region rfl ?_
 obtain ⟨r10z, hx9z, hM⟩ := M.e_bind hM
 refine s_call cf60 [] rfl (za5 hx9z _ (St.give (T := [cOwn (α := Int) 3 u0_2 r0, cOwn (α := Pk) 72 u0_1 r2]) H rfl)) ?_
 rintro vq w11z ⟨r3, u0_3, hr12z, hvq, H2_⟩
 subst hr12z
 subst vq
 try dsimp only at hM
 replace H : St w w11z [cOwn (α := Pk) 72 u0_3 r3, cOwn (α := Int) 3 u0_2 r0, cOwn (α := Pk) 72 u0_1 r2] R := H.back H2_ rfl
 clear H2_
 refine t_bs (α := Int) T27 [I 1, I 3] [(1 : Int), (3 : Int)] H rfl (.cons rfl (Flat.rep_enc _ (1 : Int)) <| .cons rfl (Flat.rep_enc _ (3 : Int)) <| .nil) rfl rfl rfl ?_
 intro v13z w14z H
 obtain ⟨r16z, hx15z, hM⟩ := M.e_bind hM
 refine s_call cf35 [u0_3, I 7, I 200, v13z] rfl (zcE r3 7 200 ([(1 : Int), (3 : Int)]) (Reads.of (k := 1) rfl ownLe) (ownSl (H.get (k := 1) rfl)) (Reads.of (k := 0) rfl ownLe) (ownSl (H.get (k := 0) rfl)) hx15z _ (St.give (T := [cOwn (α := Int) 3 v13z ([(1 : Int), (3 : Int)]), cOwn (α := Pk) 72 u0_3 r3, cOwn (α := Int) 3 u0_2 r0, cOwn (α := Pk) 72 u0_1 r2]) H rfl)) ?_
 rintro vq w17z ⟨r02, r12, hr18z, hvq, H2_⟩
 subst hr18z
 subst vq
 try dsimp only at hM
 replace H : St w w17z [cOwn (α := Int) 3 v13z ([(1 : Int), (3 : Int)]), cOwn (α := Pk) 72 u0_3 r3, cOwn (α := Int) 3 u0_2 r0, cOwn (α := Pk) 72 u0_1 r2] R := H.back H2_ rfl
 clear H2_
 refine s_val (x_mv (v := .tuple #[I r02, I r12]) rfl) ?_
 refine s_val (x_ext (vs := [I r02, I r12]) (v := I r02) rfl rfl) ?_
 refine s_val (x_ext (vs := [I r02, I r12]) (v := I r12) rfl rfl) ?_
 refine s_val (x_as (v := I r02) rfl) ?_
 refine s_val (x_as (v := I r12) rfl) ?_
 refine s_nil ?_
 refine W.seq ?_
 refine W.region rfl ?_
 obtain ⟨r20z, hx19z, hM⟩ := M.e_bind hM
 refine s_call cf60 [] rfl (za5 hx19z _ (St.give (T := [cOwn (α := Int) 3 v13z ([(1 : Int), (3 : Int)]), cOwn (α := Pk) 72 u0_3 r3, cOwn (α := Int) 3 u0_2 r0, cOwn (α := Pk) 72 u0_1 r2]) H rfl)) ?_
 rintro vq w21z ⟨r4, u0_5, hr22z, hvq, H2_⟩
 subst hr22z
 subst vq
 try dsimp only at hM
 replace H : St w w21z [cOwn (α := Pk) 72 u0_5 r4, cOwn (α := Int) 3 v13z ([(1 : Int), (3 : Int)]), cOwn (α := Pk) 72 u0_3 r3, cOwn (α := Int) 3 u0_2 r0, cOwn (α := Pk) 72 u0_1 r2] R := H.back H2_ rfl
 clear H2_
 refine t_bs (α := Int) T27 [I 0, I 100, I 120, I 80] [(0 : Int), (100 : Int), (120 : Int), (80 : Int)] H rfl (.cons rfl (Flat.rep_enc _ (0 : Int)) <| .cons rfl (Flat.rep_enc _ (100 : Int)) <| .cons rfl (Flat.rep_enc _ (120 : Int)) <| .cons rfl (Flat.rep_enc _ (80 : Int)) <| .nil) rfl rfl rfl ?_
 intro v23z w24z H
 obtain ⟨r26z, hx25z, hM⟩ := M.e_bind hM
 refine s_call cf41 [u0_5, I 7, I 200, I 300, v23z] rfl (zbV r4 7 200 300 ([(0 : Int), (100 : Int), (120 : Int), (80 : Int)]) (Reads.of (k := 1) rfl ownLe) (ownSl (H.get (k := 1) rfl)) (Reads.of (k := 0) rfl ownLe) (ownSl (H.get (k := 0) rfl)) hx25z _ (St.give (T := [cOwn (α := Int) 3 v23z ([(0 : Int), (100 : Int), (120 : Int), (80 : Int)]), cOwn (α := Pk) 72 u0_5 r4, cOwn (α := Int) 3 v13z ([(1 : Int), (3 : Int)]), cOwn (α := Pk) 72 u0_3 r3, cOwn (α := Int) 3 u0_2 r0, cOwn (α := Pk) 72 u0_1 r2]) H rfl)) ?_
 rintro vq w27z ⟨r03, r13, hr28z, hvq, H2_⟩
 subst hr28z
 subst vq
 try dsimp only at hM
 replace H : St w w27z [cOwn (α := Int) 3 v23z ([(0 : Int), (100 : Int), (120 : Int), (80 : Int)]), cOwn (α := Pk) 72 u0_5 r4, cOwn (α := Int) 3 v13z ([(1 : Int), (3 : Int)]), cOwn (α := Pk) 72 u0_3 r3, cOwn (α := Int) 3 u0_2 r0, cOwn (α := Pk) 72 u0_1 r2] R := H.back H2_ rfl
 clear H2_
 refine s_val (x_mv (v := .tuple #[B r03, I r13]) rfl) ?_
 refine s_val (x_ext (vs := [B r03, I r13]) (v := B r03) rfl rfl) ?_
 refine s_val (x_ext (vs := [B r03, I r13]) (v := I r13) rfl rfl) ?_
 refine s_val (x_as (v := B r03) rfl) ?_
 refine s_val (x_as (v := I r13) rfl) ?_
 refine s_nil ?_
 refine W.seq ?_
 refine W.region rfl ?_
 obtain ⟨r30z, hx29z, hM⟩ := M.e_bind hM
 refine s_call cf60 [] rfl (za5 hx29z _ (St.give (T := [cOwn (α := Int) 3 v23z ([(0 : Int), (100 : Int), (120 : Int), (80 : Int)]), cOwn (α := Pk) 72 u0_5 r4, cOwn (α := Int) 3 v13z ([(1 : Int), (3 : Int)]), cOwn (α := Pk) 72 u0_3 r3, cOwn (α := Int) 3 u0_2 r0, cOwn (α := Pk) 72 u0_1 r2]) H rfl)) ?_
 rintro vq w31z ⟨r5, u0_7, hr32z, hvq, H2_⟩
 subst hr32z
 subst vq
 try dsimp only at hM
 replace H : St w w31z [cOwn (α := Pk) 72 u0_7 r5, cOwn (α := Int) 3 v23z ([(0 : Int), (100 : Int), (120 : Int), (80 : Int)]), cOwn (α := Pk) 72 u0_5 r4, cOwn (α := Int) 3 v13z ([(1 : Int), (3 : Int)]), cOwn (α := Pk) 72 u0_3 r3, cOwn (α := Int) 3 u0_2 r0, cOwn (α := Pk) 72 u0_1 r2] R := H.back H2_ rfl
 clear H2_
 refine t_bs (α := Int) T27 [I 0, I 99, I 120, I 80] [(0 : Int), (99 : Int), (120 : Int), (80 : Int)] H rfl (.cons rfl (Flat.rep_enc _ (0 : Int)) <| .cons rfl (Flat.rep_enc _ (99 : Int)) <| .cons rfl (Flat.rep_enc _ (120 : Int)) <| .cons rfl (Flat.rep_enc _ (80 : Int)) <| .nil) rfl rfl rfl ?_
 intro v33z w34z H
 obtain ⟨r36z, hx35z, hM⟩ := M.e_bind hM
 refine s_call cf41 [u0_7, I 7, I 200, I 300, v33z] rfl (zbV r5 7 200 300 ([(0 : Int), (99 : Int), (120 : Int), (80 : Int)]) (Reads.of (k := 1) rfl ownLe) (ownSl (H.get (k := 1) rfl)) (Reads.of (k := 0) rfl ownLe) (ownSl (H.get (k := 0) rfl)) hx35z _ (St.give (T := [cOwn (α := Int) 3 v33z ([(0 : Int), (99 : Int), (120 : Int), (80 : Int)]), cOwn (α := Pk) 72 u0_7 r5, cOwn (α := Int) 3 v23z ([(0 : Int), (100 : Int), (120 : Int), (80 : Int)]), cOwn (α := Pk) 72 u0_5 r4, cOwn (α := Int) 3 v13z ([(1 : Int), (3 : Int)]), cOwn (α := Pk) 72 u0_3 r3, cOwn (α := Int) 3 u0_2 r0, cOwn (α := Pk) 72 u0_1 r2]) H rfl)) ?_
 rintro vq w37z ⟨r04, r14, hr38z, hvq, H2_⟩
 subst hr38z
 subst vq
 try dsimp only at hM
 replace H : St w w37z [cOwn (α := Int) 3 v33z ([(0 : Int), (99 : Int), (120 : Int), (80 : Int)]), cOwn (α := Pk) 72 u0_7 r5, cOwn (α := Int) 3 v23z ([(0 : Int), (100 : Int), (120 : Int), (80 : Int)]), cOwn (α := Pk) 72 u0_5 r4, cOwn (α := Int) 3 v13z ([(1 : Int), (3 : Int)]), cOwn (α := Pk) 72 u0_3 r3, cOwn (α := Int) 3 u0_2 r0, cOwn (α := Pk) 72 u0_1 r2] R := H.back H2_ rfl
 clear H2_
 refine s_val (x_mv (v := .tuple #[B r04, I r14]) rfl) ?_
 refine s_val (x_ext (vs := [B r04, I r14]) (v := B r04) rfl rfl) ?_
 refine s_val (x_ext (vs := [B r04, I r14]) (v := I r14) rfl rfl) ?_
 refine s_val (x_as (v := B r04) rfl) ?_
 refine s_val (x_as (v := I r14) rfl) ?_
 refine s_nil ?_
 refine W.seq ?_
 refine W.seq ?_
 refine W.region rfl ?_
 refine s_val (x_mv (v := I r22) rfl) ?_
 refine s_val (x_cmp (kd := .i64) (a := r22) (b := 0) (r := r22 != 0) rfl rfl rfl) ?_
 refine s_val (x_mv (v := B (r22 != 0)) rfl) ?_
 refine g_val (!(r22 != 0)) (gy_f rfl) (fun hg => x_mv (v := I r12) rfl) ?_
 refine g_val (!(r22 != 0)) (gy_f rfl) (fun hg => x_cmp (kd := .i64) (a := r12) (b := 0) (r := r12 != 0) (gd_of (c := !(r22 != 0)) hg (I r12)) rfl rfl) ?_
 refine s_val (x_por (b := r22 != 0) (r := r12 != 0) rfl rfl (fun hb => gd_of (c := !(r22 != 0)) (by first | exact hb | (rw [hb]; rfl) | simp_all) (B (r12 != 0)))) ?_
 refine s_val (x_mv (v := B ((r22 != 0) || (r12 != 0))) rfl) ?_
 refine g_val (!((r22 != 0) || (r12 != 0))) (gy_f rfl) (fun hg => x_mv (v := I r13) rfl) ?_
 refine g_val (!((r22 != 0) || (r12 != 0))) (gy_f rfl) (fun hg => x_cmp (kd := .i64) (a := r13) (b := 0) (r := r13 != 0) (gd_of (c := !((r22 != 0) || (r12 != 0))) hg (I r13)) rfl rfl) ?_
 refine s_val (x_por (b := ((r22 != 0) || (r12 != 0))) (r := r13 != 0) rfl rfl (fun hb => gd_of (c := !((r22 != 0) || (r12 != 0))) (by first | exact hb | (rw [hb]; rfl) | simp_all) (B (r13 != 0)))) ?_
 refine s_val (x_mv (v := B (((r22 != 0) || (r12 != 0)) || (r13 != 0))) rfl) ?_
 refine g_val (!(((r22 != 0) || (r12 != 0)) || (r13 != 0))) (gy_f rfl) (fun hg => x_mv (v := I r14) rfl) ?_
 refine g_val (!(((r22 != 0) || (r12 != 0)) || (r13 != 0))) (gy_f rfl) (fun hg => x_cmp (kd := .i64) (a := r14) (b := 0) (r := r14 != 0) (gd_of (c := !(((r22 != 0) || (r12 != 0)) || (r13 != 0))) hg (I r14)) rfl rfl) ?_
 refine s_val (x_por (b := (((r22 != 0) || (r12 != 0)) || (r13 != 0))) (r := r14 != 0) rfl rfl (fun hb => gd_of (c := !(((r22 != 0) || (r12 != 0)) || (r13 != 0))) (by first | exact hb | (rw [hb]; rfl) | simp_all) (B (r14 != 0)))) ?_
 refine s_val (x_mv (v := B ((((r22 != 0) || (r12 != 0)) || (r13 != 0)) || (r14 != 0))) rfl) ?_
 refine g_val (!((((r22 != 0) || (r12 != 0)) || (r13 != 0)) || (r14 != 0))) (gy_f rfl) (fun hg => x_mv (v := u0_2) rfl) ?_
 refine t_gbs (α := Int) T27 (!((((r22 != 0) || (r12 != 0)) || (r13 != 0)) || (r14 != 0))) (gy_f rfl) [I 0, I 2, I 3] [(0 : Int), (2 : Int), (3 : Int)] H (fun _ => rfl) (.cons rfl (Flat.rep_enc _ (0 : Int)) <| .cons rfl (Flat.rep_enc _ (2 : Int)) <| .cons rfl (Flat.rep_enc _ (3 : Int)) <| .nil) rfl rfl rfl ?_
 intro v39z Bs_9 w40z H hf41z
 obtain ⟨r6, hx42z, hM⟩ := M.e_bind hM
 refine t_gcall (!((((r22 != 0) || (r12 != 0)) || (r13 != 0)) || (r14 != 0))) (gy_f rfl) cf43 (B r6) (fun _ => [u0_2, v39z]) (fun hg => lst2 (gd_of (c := !((((r22 != 0) || (r12 != 0)) || (r13 != 0)) || (r14 != 0))) hg (u0_2)) (gd_of (c := !((((r22 != 0) || (r12 != 0)) || (r13 != 0)) || (r14 != 0))) hg (v39z))) H (fun hg => (zcs r0 ([(0 : Int), (2 : Int), (3 : Int)]) (Reads.of (k := 7) rfl ownLe) (ownSl (H.get (k := 7) rfl)) (Reads.of (k := 0) rfl roLe) (hf41z hg) (M.e_opt hx42z hg) _ (H.give (A := []) rfl)).mono fun v_ w_ ⟨y_, hr_, hv_, H_⟩ => by subst hr_; exact ⟨hv_, H.via H_⟩) ?_
 intro w43z H
 refine g_val (!((((r22 != 0) || (r12 != 0)) || (r13 != 0)) || (r14 != 0))) (gy_f rfl) (fun hg => x_not (b := r6) (gd_of (c := !((((r22 != 0) || (r12 != 0)) || (r13 != 0)) || (r14 != 0))) hg (B r6))) ?_
 refine s_val (x_por (b := ((((r22 != 0) || (r12 != 0)) || (r13 != 0)) || (r14 != 0))) (r := !r6) rfl rfl (fun hb => gd_of (c := !((((r22 != 0) || (r12 != 0)) || (r13 != 0)) || (r14 != 0))) (by first | exact hb | (rw [hb]; rfl) | simp_all) (B (!r6)))) ?_
 refine s_val (x_mv (v := B (((((r22 != 0) || (r12 != 0)) || (r13 != 0)) || (r14 != 0)) || (!r6))) rfl) ?_
 refine g_val (!(((((r22 != 0) || (r12 != 0)) || (r13 != 0)) || (r14 != 0)) || (!r6))) (gy_f rfl) (fun hg => x_mv (v := I r1) rfl) ?_
 refine g_val (!(((((r22 != 0) || (r12 != 0)) || (r13 != 0)) || (r14 != 0)) || (!r6))) (gy_f rfl) (fun hg => x_cmp (kd := .i64) (a := r1) (b := 300) (r := r1 != 300) (gd_of (c := !(((((r22 != 0) || (r12 != 0)) || (r13 != 0)) || (r14 != 0)) || (!r6))) hg (I r1)) rfl rfl) ?_
 refine s_val (x_por (b := (((((r22 != 0) || (r12 != 0)) || (r13 != 0)) || (r14 != 0)) || (!r6))) (r := r1 != 300) rfl rfl (fun hb => gd_of (c := !(((((r22 != 0) || (r12 != 0)) || (r13 != 0)) || (r14 != 0)) || (!r6))) (by first | exact hb | (rw [hb]; rfl) | simp_all) (B (r1 != 300)))) ?_
 refine s_val (x_mv (v := B ((((((r22 != 0) || (r12 != 0)) || (r13 != 0)) || (r14 != 0)) || (!r6)) || (r1 != 300))) rfl) ?_
 refine g_val (!((((((r22 != 0) || (r12 != 0)) || (r13 != 0)) || (r14 != 0)) || (!r6)) || (r1 != 300))) (gy_f rfl) (fun hg => x_mv (v := I r02) rfl) ?_
 refine g_val (!((((((r22 != 0) || (r12 != 0)) || (r13 != 0)) || (r14 != 0)) || (!r6)) || (r1 != 300))) (gy_f rfl) (fun hg => x_cmp (kd := .i64) (a := r02) (b := 230) (r := r02 != 230) (gd_of (c := !((((((r22 != 0) || (r12 != 0)) || (r13 != 0)) || (r14 != 0)) || (!r6)) || (r1 != 300))) hg (I r02)) rfl rfl) ?_
 refine s_val (x_por (b := ((((((r22 != 0) || (r12 != 0)) || (r13 != 0)) || (r14 != 0)) || (!r6)) || (r1 != 300))) (r := r02 != 230) rfl rfl (fun hb => gd_of (c := !((((((r22 != 0) || (r12 != 0)) || (r13 != 0)) || (r14 != 0)) || (!r6)) || (r1 != 300))) (by first | exact hb | (rw [hb]; rfl) | simp_all) (B (r02 != 230)))) ?_
 refine s_val (x_mv (v := B (((((((r22 != 0) || (r12 != 0)) || (r13 != 0)) || (r14 != 0)) || (!r6)) || (r1 != 300)) || (r02 != 230))) rfl) ?_
 refine g_val (!(((((((r22 != 0) || (r12 != 0)) || (r13 != 0)) || (r14 != 0)) || (!r6)) || (r1 != 300)) || (r02 != 230))) (gy_f rfl) (fun hg => x_mv (v := B r03) rfl) ?_
 refine g_val (!(((((((r22 != 0) || (r12 != 0)) || (r13 != 0)) || (r14 != 0)) || (!r6)) || (r1 != 300)) || (r02 != 230))) (gy_f rfl) (fun hg => x_not (b := r03) (gd_of (c := !(((((((r22 != 0) || (r12 != 0)) || (r13 != 0)) || (r14 != 0)) || (!r6)) || (r1 != 300)) || (r02 != 230))) hg (B r03))) ?_
 refine s_val (x_por (b := (((((((r22 != 0) || (r12 != 0)) || (r13 != 0)) || (r14 != 0)) || (!r6)) || (r1 != 300)) || (r02 != 230))) (r := !r03) rfl rfl (fun hb => gd_of (c := !(((((((r22 != 0) || (r12 != 0)) || (r13 != 0)) || (r14 != 0)) || (!r6)) || (r1 != 300)) || (r02 != 230))) (by first | exact hb | (rw [hb]; rfl) | simp_all) (B (!r03)))) ?_
 refine s_val (x_mv (v := B ((((((((r22 != 0) || (r12 != 0)) || (r13 != 0)) || (r14 != 0)) || (!r6)) || (r1 != 300)) || (r02 != 230)) || (!r03))) rfl) ?_
 refine g_val (!((((((((r22 != 0) || (r12 != 0)) || (r13 != 0)) || (r14 != 0)) || (!r6)) || (r1 != 300)) || (r02 != 230)) || (!r03))) (gy_f rfl) (fun hg => x_mv (v := B r04) rfl) ?_
 refine s_val (x_por (b := ((((((((r22 != 0) || (r12 != 0)) || (r13 != 0)) || (r14 != 0)) || (!r6)) || (r1 != 300)) || (r02 != 230)) || (!r03))) (r := r04) rfl rfl (fun hb => gd_of (c := !((((((((r22 != 0) || (r12 != 0)) || (r13 != 0)) || (r14 != 0)) || (!r6)) || (r1 != 300)) || (r02 != 230)) || (!r03))) (by first | exact hb | (rw [hb]; rfl) | simp_all) (B r04))) ?_
 refine s_nil ?_
 refine W.cond (((((((((r22 != 0) || (r12 != 0)) || (r13 != 0)) || (r14 != 0)) || (!r6)) || (r1 != 300)) || (r02 != 230)) || (!r03)) || r04) rfl (fun c44z => ?_) (fun c44z => ?_)
 ·replace hM := M.e_t hM c44z
  refine W.seq ?_
  refine W.region rfl ?_
  refine s_val (x_as (v := B false) rfl) ?_
  refine s_nil ?_
  refine W.ret ?_
  have hr_ := M.e_pure hM
  exact ⟨_, resE_tmp rfl, ⟨false, hr_, rfl, (H.pick [] (by decide) rfl)⟩⟩
 replace hM := M.e_f hM c44z
 refine W.skip ?_
 refine W.seq ?_
 refine W.region rfl ?_
 obtain ⟨r46z, hx45z, hM⟩ := M.e_bind hM
 refine s_call cf61 [] rfl (zbe hx45z _ (St.give (T := [cRo Bs_9, cOwn (α := Int) 3 v33z ([(0 : Int), (99 : Int), (120 : Int), (80 : Int)]), cOwn (α := Pk) 72 u0_7 r5, cOwn (α := Int) 3 v23z ([(0 : Int), (100 : Int), (120 : Int), (80 : Int)]), cOwn (α := Pk) 72 u0_5 r4, cOwn (α := Int) 3 v13z ([(1 : Int), (3 : Int)]), cOwn (α := Pk) 72 u0_3 r3, cOwn (α := Int) 3 u0_2 r0, cOwn (α := Pk) 72 u0_1 r2]) H rfl)) ?_
 rintro vq w47z ⟨r05, r15, r23, r32, u0_10, u1_11, rr2_12, Bs3_13, hr48z, hvq, H2_, hf49z⟩
 subst hr48z
 subst vq
 try dsimp only at hM
 replace H : St w w47z [cOwn (α := Yr) 41 u0_10 r05, cOwn (α := Raw 3) 43 u1_11 rr2_12, cRo Bs3_13, cRo Bs_9, cOwn (α := Int) 3 v33z ([(0 : Int), (99 : Int), (120 : Int), (80 : Int)]), cOwn (α := Pk) 72 u0_7 r5, cOwn (α := Int) 3 v23z ([(0 : Int), (100 : Int), (120 : Int), (80 : Int)]), cOwn (α := Pk) 72 u0_5 r4, cOwn (α := Int) 3 v13z ([(1 : Int), (3 : Int)]), cOwn (α := Pk) 72 u0_3 r3, cOwn (α := Int) 3 u0_2 r0, cOwn (α := Pk) 72 u0_1 r2] R := H.back H2_ rfl
 clear H2_
 obtain ⟨r51z, hx50z, hM⟩ := M.e_bind hM
 refine s_call cf15 [.agg #[u0_10, u1_11, I r23, I r32], I 1900, I 1909, I 500] rfl (zao r05 r15 r23 r32 1900 1909 500 (Reads.of (k := 0) rfl ownLe) (ownSl (H.get (k := 0) rfl)) (Reads.sup (Reads.of (k := 1) rfl ownLe) (Reads.of (k := 2) rfl roLe)) (rowSl rfl (H.get (k := 1) rfl) (roLe _ (H.get (k := 2) rfl)) hf49z) hx50z _ (St.give (T := [cOwn (α := Yr) 41 u0_10 r05, cOwn (α := Raw 3) 43 u1_11 rr2_12, cRo Bs3_13, cRo Bs_9, cOwn (α := Int) 3 v33z ([(0 : Int), (99 : Int), (120 : Int), (80 : Int)]), cOwn (α := Pk) 72 u0_7 r5, cOwn (α := Int) 3 v23z ([(0 : Int), (100 : Int), (120 : Int), (80 : Int)]), cOwn (α := Pk) 72 u0_5 r4, cOwn (α := Int) 3 v13z ([(1 : Int), (3 : Int)]), cOwn (α := Pk) 72 u0_3 r3, cOwn (α := Int) 3 u0_2 r0, cOwn (α := Pk) 72 u0_1 r2]) H rfl)) ?_
 rintro vq w52z ⟨r00, r01, r16, hr53z, hvq, H2_⟩
 subst hr53z
 subst vq
 try dsimp only at hM
 replace H : St w w52z [cOwn (α := Yr) 41 u0_10 r05, cOwn (α := Raw 3) 43 u1_11 rr2_12, cRo Bs3_13, cRo Bs_9, cOwn (α := Int) 3 v33z ([(0 : Int), (99 : Int), (120 : Int), (80 : Int)]), cOwn (α := Pk) 72 u0_7 r5, cOwn (α := Int) 3 v23z ([(0 : Int), (100 : Int), (120 : Int), (80 : Int)]), cOwn (α := Pk) 72 u0_5 r4, cOwn (α := Int) 3 v13z ([(1 : Int), (3 : Int)]), cOwn (α := Pk) 72 u0_3 r3, cOwn (α := Int) 3 u0_2 r0, cOwn (α := Pk) 72 u0_1 r2] R := H.back H2_ rfl
 clear H2_
 refine s_val (x_mv (v := .tuple #[.agg #[I r00, I r01], I r16]) rfl) ?_
 refine s_val (x_ext (vs := [.agg #[I r00, I r01], I r16]) (v := .agg #[I r00, I r01]) rfl rfl) ?_
 refine s_val (x_ext (vs := [.agg #[I r00, I r01], I r16]) (v := I r16) rfl rfl) ?_
 refine t_alloc (cs := [I 0, I 0]) H Al35 rfl ?_
 intro b_14 w54z H
 refine t_st (k := 0) (b := b_14) (off := 0) (cs := [I 0, I 0]) (vs := [I r00, I r01]) (cs' := [I r00, I r01]) (v := .agg #[I r00, I r01]) (L' := [cBlk b_14 [I r00, I r01] 35, cOwn (α := Yr) 41 u0_10 r05, cOwn (α := Raw 3) 43 u1_11 rr2_12, cRo Bs3_13, cRo Bs_9, cOwn (α := Int) 3 v33z ([(0 : Int), (99 : Int), (120 : Int), (80 : Int)]), cOwn (α := Pk) 72 u0_7 r5, cOwn (α := Int) 3 v23z ([(0 : Int), (100 : Int), (120 : Int), (80 : Int)]), cOwn (α := Pk) 72 u0_5 r4, cOwn (α := Int) 3 v13z ([(1 : Int), (3 : Int)]), cOwn (α := Pk) 72 u0_3 r3, cOwn (α := Int) 3 u0_2 r0, cOwn (α := Pk) 72 u0_1 r2]) H rfl rfl rfl Sz35 rfl rfl rfl rfl rfl rfl ?_
 intro w55z H
 refine s_val (x_as (v := I r16) rfl) ?_
 refine s_nil ?_
 refine W.seq ?_
 refine W.region rfl ?_
 obtain ⟨r57z, hx56z, hM⟩ := M.e_bind hM
 refine s_call cf61 [] rfl (zbe hx56z _ (St.give (T := [cBlk b_14 [I r00, I r01] 35, cOwn (α := Yr) 41 u0_10 r05, cOwn (α := Raw 3) 43 u1_11 rr2_12, cRo Bs3_13, cRo Bs_9, cOwn (α := Int) 3 v33z ([(0 : Int), (99 : Int), (120 : Int), (80 : Int)]), cOwn (α := Pk) 72 u0_7 r5, cOwn (α := Int) 3 v23z ([(0 : Int), (100 : Int), (120 : Int), (80 : Int)]), cOwn (α := Pk) 72 u0_5 r4, cOwn (α := Int) 3 v13z ([(1 : Int), (3 : Int)]), cOwn (α := Pk) 72 u0_3 r3, cOwn (α := Int) 3 u0_2 r0, cOwn (α := Pk) 72 u0_1 r2]) H rfl)) ?_
 rintro vq w58z ⟨r06, r17, r24, r33, u0_15, u1_16, rr2_17, Bs3_18, hr59z, hvq, H2_, hf60z⟩
 subst hr59z
 subst vq
 try dsimp only at hM
 replace H : St w w58z [cOwn (α := Yr) 41 u0_15 r06, cOwn (α := Raw 3) 43 u1_16 rr2_17, cRo Bs3_18, cBlk b_14 [I r00, I r01] 35, cOwn (α := Yr) 41 u0_10 r05, cOwn (α := Raw 3) 43 u1_11 rr2_12, cRo Bs3_13, cRo Bs_9, cOwn (α := Int) 3 v33z ([(0 : Int), (99 : Int), (120 : Int), (80 : Int)]), cOwn (α := Pk) 72 u0_7 r5, cOwn (α := Int) 3 v23z ([(0 : Int), (100 : Int), (120 : Int), (80 : Int)]), cOwn (α := Pk) 72 u0_5 r4, cOwn (α := Int) 3 v13z ([(1 : Int), (3 : Int)]), cOwn (α := Pk) 72 u0_3 r3, cOwn (α := Int) 3 u0_2 r0, cOwn (α := Pk) 72 u0_1 r2] R := H.back H2_ rfl
 clear H2_
 obtain ⟨r62z, hx61z, hM⟩ := M.e_bind hM
 refine s_call cf15 [.agg #[u0_15, u1_16, I r24, I r33], I 1900, I 1909, I 410] rfl (zao r06 r17 r24 r33 1900 1909 410 (Reads.of (k := 0) rfl ownLe) (ownSl (H.get (k := 0) rfl)) (Reads.sup (Reads.of (k := 1) rfl ownLe) (Reads.of (k := 2) rfl roLe)) (rowSl rfl (H.get (k := 1) rfl) (roLe _ (H.get (k := 2) rfl)) hf60z) hx61z _ (St.give (T := [cOwn (α := Yr) 41 u0_15 r06, cOwn (α := Raw 3) 43 u1_16 rr2_17, cRo Bs3_18, cBlk b_14 [I r00, I r01] 35, cOwn (α := Yr) 41 u0_10 r05, cOwn (α := Raw 3) 43 u1_11 rr2_12, cRo Bs3_13, cRo Bs_9, cOwn (α := Int) 3 v33z ([(0 : Int), (99 : Int), (120 : Int), (80 : Int)]), cOwn (α := Pk) 72 u0_7 r5, cOwn (α := Int) 3 v23z ([(0 : Int), (100 : Int), (120 : Int), (80 : Int)]), cOwn (α := Pk) 72 u0_5 r4, cOwn (α := Int) 3 v13z ([(1 : Int), (3 : Int)]), cOwn (α := Pk) 72 u0_3 r3, cOwn (α := Int) 3 u0_2 r0, cOwn (α := Pk) 72 u0_1 r2]) H rfl)) ?_
 rintro vq w63z ⟨r002, r012, r18, hr64z, hvq, H2_⟩
 subst hr64z
 subst vq
 try dsimp only at hM
 replace H : St w w63z [cOwn (α := Yr) 41 u0_15 r06, cOwn (α := Raw 3) 43 u1_16 rr2_17, cRo Bs3_18, cBlk b_14 [I r00, I r01] 35, cOwn (α := Yr) 41 u0_10 r05, cOwn (α := Raw 3) 43 u1_11 rr2_12, cRo Bs3_13, cRo Bs_9, cOwn (α := Int) 3 v33z ([(0 : Int), (99 : Int), (120 : Int), (80 : Int)]), cOwn (α := Pk) 72 u0_7 r5, cOwn (α := Int) 3 v23z ([(0 : Int), (100 : Int), (120 : Int), (80 : Int)]), cOwn (α := Pk) 72 u0_5 r4, cOwn (α := Int) 3 v13z ([(1 : Int), (3 : Int)]), cOwn (α := Pk) 72 u0_3 r3, cOwn (α := Int) 3 u0_2 r0, cOwn (α := Pk) 72 u0_1 r2] R := H.back H2_ rfl
 clear H2_
 refine s_val (x_mv (v := .tuple #[.agg #[I r002, I r012], I r18]) rfl) ?_
 refine s_val (x_ext (vs := [.agg #[I r002, I r012], I r18]) (v := .agg #[I r002, I r012]) rfl rfl) ?_
 refine s_val (x_ext (vs := [.agg #[I r002, I r012], I r18]) (v := I r18) rfl rfl) ?_
 refine t_alloc (cs := [I 0, I 0]) H Al35 rfl ?_
 intro b_19 w65z H
 refine t_st (k := 0) (b := b_19) (off := 0) (cs := [I 0, I 0]) (vs := [I r002, I r012]) (cs' := [I r002, I r012]) (v := .agg #[I r002, I r012]) (L' := [cBlk b_19 [I r002, I r012] 35, cOwn (α := Yr) 41 u0_15 r06, cOwn (α := Raw 3) 43 u1_16 rr2_17, cRo Bs3_18, cBlk b_14 [I r00, I r01] 35, cOwn (α := Yr) 41 u0_10 r05, cOwn (α := Raw 3) 43 u1_11 rr2_12, cRo Bs3_13, cRo Bs_9, cOwn (α := Int) 3 v33z ([(0 : Int), (99 : Int), (120 : Int), (80 : Int)]), cOwn (α := Pk) 72 u0_7 r5, cOwn (α := Int) 3 v23z ([(0 : Int), (100 : Int), (120 : Int), (80 : Int)]), cOwn (α := Pk) 72 u0_5 r4, cOwn (α := Int) 3 v13z ([(1 : Int), (3 : Int)]), cOwn (α := Pk) 72 u0_3 r3, cOwn (α := Int) 3 u0_2 r0, cOwn (α := Pk) 72 u0_1 r2]) H rfl rfl rfl Sz35 rfl rfl rfl rfl rfl rfl ?_
 intro w66z H
 refine s_val (x_as (v := I r18) rfl) ?_
 refine s_nil ?_
 refine W.seq ?_
 refine W.region rfl ?_
 obtain ⟨r68z, hx67z, hM⟩ := M.e_bind hM
 refine s_call cf61 [] rfl (zbe hx67z _ (St.give (T := [cBlk b_19 [I r002, I r012] 35, cOwn (α := Yr) 41 u0_15 r06, cOwn (α := Raw 3) 43 u1_16 rr2_17, cRo Bs3_18, cBlk b_14 [I r00, I r01] 35, cOwn (α := Yr) 41 u0_10 r05, cOwn (α := Raw 3) 43 u1_11 rr2_12, cRo Bs3_13, cRo Bs_9, cOwn (α := Int) 3 v33z ([(0 : Int), (99 : Int), (120 : Int), (80 : Int)]), cOwn (α := Pk) 72 u0_7 r5, cOwn (α := Int) 3 v23z ([(0 : Int), (100 : Int), (120 : Int), (80 : Int)]), cOwn (α := Pk) 72 u0_5 r4, cOwn (α := Int) 3 v13z ([(1 : Int), (3 : Int)]), cOwn (α := Pk) 72 u0_3 r3, cOwn (α := Int) 3 u0_2 r0, cOwn (α := Pk) 72 u0_1 r2]) H rfl)) ?_
 rintro vq w69z ⟨r07, r19, r25, r34, u0_20, u1_21, rr2_22, Bs3_23, hr70z, hvq, H2_, hf71z⟩
 subst hr70z
 subst vq
 try dsimp only at hM
 replace H : St w w69z [cOwn (α := Yr) 41 u0_20 r07, cOwn (α := Raw 3) 43 u1_21 rr2_22, cRo Bs3_23, cBlk b_19 [I r002, I r012] 35, cOwn (α := Yr) 41 u0_15 r06, cOwn (α := Raw 3) 43 u1_16 rr2_17, cRo Bs3_18, cBlk b_14 [I r00, I r01] 35, cOwn (α := Yr) 41 u0_10 r05, cOwn (α := Raw 3) 43 u1_11 rr2_12, cRo Bs3_13, cRo Bs_9, cOwn (α := Int) 3 v33z ([(0 : Int), (99 : Int), (120 : Int), (80 : Int)]), cOwn (α := Pk) 72 u0_7 r5, cOwn (α := Int) 3 v23z ([(0 : Int), (100 : Int), (120 : Int), (80 : Int)]), cOwn (α := Pk) 72 u0_5 r4, cOwn (α := Int) 3 v13z ([(1 : Int), (3 : Int)]), cOwn (α := Pk) 72 u0_3 r3, cOwn (α := Int) 3 u0_2 r0, cOwn (α := Pk) 72 u0_1 r2] R := H.back H2_ rfl
 clear H2_
 obtain ⟨r73z, hx72z, hM⟩ := M.e_bind hM
 refine s_call cf26 [.agg #[u0_20, u1_21, I r25, I r34], I 410] rfl (zct r07 r19 r25 r34 410 (Reads.of (k := 0) rfl ownLe) (ownSl (H.get (k := 0) rfl)) (Reads.sup (Reads.of (k := 1) rfl ownLe) (Reads.of (k := 2) rfl roLe)) (rowSl rfl (H.get (k := 1) rfl) (roLe _ (H.get (k := 2) rfl)) hf71z) hx72z _ (St.give (T := [cOwn (α := Yr) 41 u0_20 r07, cOwn (α := Raw 3) 43 u1_21 rr2_22, cRo Bs3_23, cBlk b_19 [I r002, I r012] 35, cOwn (α := Yr) 41 u0_15 r06, cOwn (α := Raw 3) 43 u1_16 rr2_17, cRo Bs3_18, cBlk b_14 [I r00, I r01] 35, cOwn (α := Yr) 41 u0_10 r05, cOwn (α := Raw 3) 43 u1_11 rr2_12, cRo Bs3_13, cRo Bs_9, cOwn (α := Int) 3 v33z ([(0 : Int), (99 : Int), (120 : Int), (80 : Int)]), cOwn (α := Pk) 72 u0_7 r5, cOwn (α := Int) 3 v23z ([(0 : Int), (100 : Int), (120 : Int), (80 : Int)]), cOwn (α := Pk) 72 u0_5 r4, cOwn (α := Int) 3 v13z ([(1 : Int), (3 : Int)]), cOwn (α := Pk) 72 u0_3 r3, cOwn (α := Int) 3 u0_2 r0, cOwn (α := Pk) 72 u0_1 r2]) H rfl)) ?_
 rintro vq w74z ⟨r003, r013, r10, r11, r26, hr75z, hvq, H2_⟩
 subst hr75z
 subst vq
 try dsimp only at hM
 replace H : St w w74z [cOwn (α := Yr) 41 u0_20 r07, cOwn (α := Raw 3) 43 u1_21 rr2_22, cRo Bs3_23, cBlk b_19 [I r002, I r012] 35, cOwn (α := Yr) 41 u0_15 r06, cOwn (α := Raw 3) 43 u1_16 rr2_17, cRo Bs3_18, cBlk b_14 [I r00, I r01] 35, cOwn (α := Yr) 41 u0_10 r05, cOwn (α := Raw 3) 43 u1_11 rr2_12, cRo Bs3_13, cRo Bs_9, cOwn (α := Int) 3 v33z ([(0 : Int), (99 : Int), (120 : Int), (80 : Int)]), cOwn (α := Pk) 72 u0_7 r5, cOwn (α := Int) 3 v23z ([(0 : Int), (100 : Int), (120 : Int), (80 : Int)]), cOwn (α := Pk) 72 u0_5 r4, cOwn (α := Int) 3 v13z ([(1 : Int), (3 : Int)]), cOwn (α := Pk) 72 u0_3 r3, cOwn (α := Int) 3 u0_2 r0, cOwn (α := Pk) 72 u0_1 r2] R := H.back H2_ rfl
 clear H2_
 refine s_val (x_mv (v := .tuple #[.agg #[I r003, I r013], .agg #[I r10, I r11], I r26]) rfl) ?_
 refine s_val (x_ext (vs := [.agg #[I r003, I r013], .agg #[I r10, I r11], I r26]) (v := .agg #[I r003, I r013]) rfl rfl) ?_
 refine s_val (x_ext (vs := [.agg #[I r003, I r013], .agg #[I r10, I r11], I r26]) (v := .agg #[I r10, I r11]) rfl rfl) ?_
 refine s_val (x_ext (vs := [.agg #[I r003, I r013], .agg #[I r10, I r11], I r26]) (v := I r26) rfl rfl) ?_
 refine t_alloc (cs := [I 0, I 0]) H Al63 rfl ?_
 intro b_24 w76z H
 refine t_alloc (cs := [I 0, I 0]) H Al63 rfl ?_
 intro b_25 w77z H
 refine t_st (k := 1) (b := b_24) (off := 0) (cs := [I 0, I 0]) (vs := [I r003, I r013]) (cs' := [I r003, I r013]) (v := .agg #[I r003, I r013]) (L' := [cBlk b_25 [I 0, I 0] 63, cBlk b_24 [I r003, I r013] 63, cOwn (α := Yr) 41 u0_20 r07, cOwn (α := Raw 3) 43 u1_21 rr2_22, cRo Bs3_23, cBlk b_19 [I r002, I r012] 35, cOwn (α := Yr) 41 u0_15 r06, cOwn (α := Raw 3) 43 u1_16 rr2_17, cRo Bs3_18, cBlk b_14 [I r00, I r01] 35, cOwn (α := Yr) 41 u0_10 r05, cOwn (α := Raw 3) 43 u1_11 rr2_12, cRo Bs3_13, cRo Bs_9, cOwn (α := Int) 3 v33z ([(0 : Int), (99 : Int), (120 : Int), (80 : Int)]), cOwn (α := Pk) 72 u0_7 r5, cOwn (α := Int) 3 v23z ([(0 : Int), (100 : Int), (120 : Int), (80 : Int)]), cOwn (α := Pk) 72 u0_5 r4, cOwn (α := Int) 3 v13z ([(1 : Int), (3 : Int)]), cOwn (α := Pk) 72 u0_3 r3, cOwn (α := Int) 3 u0_2 r0, cOwn (α := Pk) 72 u0_1 r2]) H rfl rfl rfl Sz63 rfl rfl rfl rfl rfl rfl ?_
 intro w78z H
 refine t_st (k := 0) (b := b_25) (off := 0) (cs := [I 0, I 0]) (vs := [I r10, I r11]) (cs' := [I r10, I r11]) (v := .agg #[I r10, I r11]) (L' := [cBlk b_25 [I r10, I r11] 63, cBlk b_24 [I r003, I r013] 63, cOwn (α := Yr) 41 u0_20 r07, cOwn (α := Raw 3) 43 u1_21 rr2_22, cRo Bs3_23, cBlk b_19 [I r002, I r012] 35, cOwn (α := Yr) 41 u0_15 r06, cOwn (α := Raw 3) 43 u1_16 rr2_17, cRo Bs3_18, cBlk b_14 [I r00, I r01] 35, cOwn (α := Yr) 41 u0_10 r05, cOwn (α := Raw 3) 43 u1_11 rr2_12, cRo Bs3_13, cRo Bs_9, cOwn (α := Int) 3 v33z ([(0 : Int), (99 : Int), (120 : Int), (80 : Int)]), cOwn (α := Pk) 72 u0_7 r5, cOwn (α := Int) 3 v23z ([(0 : Int), (100 : Int), (120 : Int), (80 : Int)]), cOwn (α := Pk) 72 u0_5 r4, cOwn (α := Int) 3 v13z ([(1 : Int), (3 : Int)]), cOwn (α := Pk) 72 u0_3 r3, cOwn (α := Int) 3 u0_2 r0, cOwn (α := Pk) 72 u0_1 r2]) H rfl rfl rfl Sz63 rfl rfl rfl rfl rfl rfl ?_
 intro w79z H
 refine s_val (x_as (v := I r26) rfl) ?_
 refine s_nil ?_
 refine W.seq ?_
 refine W.region rfl ?_
 obtain ⟨r81z, hx80z, hM⟩ := M.e_bind hM
 refine s_call cf61 [] rfl (zbe hx80z _ (St.give (T := [cBlk b_25 [I r10, I r11] 63, cBlk b_24 [I r003, I r013] 63, cOwn (α := Yr) 41 u0_20 r07, cOwn (α := Raw 3) 43 u1_21 rr2_22, cRo Bs3_23, cBlk b_19 [I r002, I r012] 35, cOwn (α := Yr) 41 u0_15 r06, cOwn (α := Raw 3) 43 u1_16 rr2_17, cRo Bs3_18, cBlk b_14 [I r00, I r01] 35, cOwn (α := Yr) 41 u0_10 r05, cOwn (α := Raw 3) 43 u1_11 rr2_12, cRo Bs3_13, cRo Bs_9, cOwn (α := Int) 3 v33z ([(0 : Int), (99 : Int), (120 : Int), (80 : Int)]), cOwn (α := Pk) 72 u0_7 r5, cOwn (α := Int) 3 v23z ([(0 : Int), (100 : Int), (120 : Int), (80 : Int)]), cOwn (α := Pk) 72 u0_5 r4, cOwn (α := Int) 3 v13z ([(1 : Int), (3 : Int)]), cOwn (α := Pk) 72 u0_3 r3, cOwn (α := Int) 3 u0_2 r0, cOwn (α := Pk) 72 u0_1 r2]) H rfl)) ?_
 rintro vq w82z ⟨r08, r110, r27, r35, u0_26, u1_27, rr2_28, Bs3_29, hr83z, hvq, H2_, hf84z⟩
 subst hr83z
 subst vq
 try dsimp only at hM
 replace H : St w w82z [cOwn (α := Yr) 41 u0_26 r08, cOwn (α := Raw 3) 43 u1_27 rr2_28, cRo Bs3_29, cBlk b_25 [I r10, I r11] 63, cBlk b_24 [I r003, I r013] 63, cOwn (α := Yr) 41 u0_20 r07, cOwn (α := Raw 3) 43 u1_21 rr2_22, cRo Bs3_23, cBlk b_19 [I r002, I r012] 35, cOwn (α := Yr) 41 u0_15 r06, cOwn (α := Raw 3) 43 u1_16 rr2_17, cRo Bs3_18, cBlk b_14 [I r00, I r01] 35, cOwn (α := Yr) 41 u0_10 r05, cOwn (α := Raw 3) 43 u1_11 rr2_12, cRo Bs3_13, cRo Bs_9, cOwn (α := Int) 3 v33z ([(0 : Int), (99 : Int), (120 : Int), (80 : Int)]), cOwn (α := Pk) 72 u0_7 r5, cOwn (α := Int) 3 v23z ([(0 : Int), (100 : Int), (120 : Int), (80 : Int)]), cOwn (α := Pk) 72 u0_5 r4, cOwn (α := Int) 3 v13z ([(1 : Int), (3 : Int)]), cOwn (α := Pk) 72 u0_3 r3, cOwn (α := Int) 3 u0_2 r0, cOwn (α := Pk) 72 u0_1 r2] R := H.back H2_ rfl
 clear H2_
 obtain ⟨r86z, hx85z, hM⟩ := M.e_bind hM
 refine s_call cf17 [.agg #[u0_26, u1_27, I r27, I r35], I 1900, I 1906, I 2] rfl (zbu r08 r110 r27 r35 1900 1906 2 (Reads.of (k := 0) rfl ownLe) (ownSl (H.get (k := 0) rfl)) (Reads.sup (Reads.of (k := 1) rfl ownLe) (Reads.of (k := 2) rfl roLe)) (rowSl rfl (H.get (k := 1) rfl) (roLe _ (H.get (k := 2) rfl)) hf84z) hx85z _ (St.give (T := [cOwn (α := Yr) 41 u0_26 r08, cOwn (α := Raw 3) 43 u1_27 rr2_28, cRo Bs3_29, cBlk b_25 [I r10, I r11] 63, cBlk b_24 [I r003, I r013] 63, cOwn (α := Yr) 41 u0_20 r07, cOwn (α := Raw 3) 43 u1_21 rr2_22, cRo Bs3_23, cBlk b_19 [I r002, I r012] 35, cOwn (α := Yr) 41 u0_15 r06, cOwn (α := Raw 3) 43 u1_16 rr2_17, cRo Bs3_18, cBlk b_14 [I r00, I r01] 35, cOwn (α := Yr) 41 u0_10 r05, cOwn (α := Raw 3) 43 u1_11 rr2_12, cRo Bs3_13, cRo Bs_9, cOwn (α := Int) 3 v33z ([(0 : Int), (99 : Int), (120 : Int), (80 : Int)]), cOwn (α := Pk) 72 u0_7 r5, cOwn (α := Int) 3 v23z ([(0 : Int), (100 : Int), (120 : Int), (80 : Int)]), cOwn (α := Pk) 72 u0_5 r4, cOwn (α := Int) 3 v13z ([(1 : Int), (3 : Int)]), cOwn (α := Pk) 72 u0_3 r3, cOwn (α := Int) 3 u0_2 r0, cOwn (α := Pk) 72 u0_1 r2]) H rfl)) ?_
 rintro vq w87z ⟨r004, r014, r111, hr88z, hvq, H2_⟩
 subst hr88z
 subst vq
 try dsimp only at hM
 replace H : St w w87z [cOwn (α := Yr) 41 u0_26 r08, cOwn (α := Raw 3) 43 u1_27 rr2_28, cRo Bs3_29, cBlk b_25 [I r10, I r11] 63, cBlk b_24 [I r003, I r013] 63, cOwn (α := Yr) 41 u0_20 r07, cOwn (α := Raw 3) 43 u1_21 rr2_22, cRo Bs3_23, cBlk b_19 [I r002, I r012] 35, cOwn (α := Yr) 41 u0_15 r06, cOwn (α := Raw 3) 43 u1_16 rr2_17, cRo Bs3_18, cBlk b_14 [I r00, I r01] 35, cOwn (α := Yr) 41 u0_10 r05, cOwn (α := Raw 3) 43 u1_11 rr2_12, cRo Bs3_13, cRo Bs_9, cOwn (α := Int) 3 v33z ([(0 : Int), (99 : Int), (120 : Int), (80 : Int)]), cOwn (α := Pk) 72 u0_7 r5, cOwn (α := Int) 3 v23z ([(0 : Int), (100 : Int), (120 : Int), (80 : Int)]), cOwn (α := Pk) 72 u0_5 r4, cOwn (α := Int) 3 v13z ([(1 : Int), (3 : Int)]), cOwn (α := Pk) 72 u0_3 r3, cOwn (α := Int) 3 u0_2 r0, cOwn (α := Pk) 72 u0_1 r2] R := H.back H2_ rfl
 clear H2_
 refine s_val (x_mv (v := .tuple #[.agg #[I r004, I r014], I r111]) rfl) ?_
 refine s_val (x_ext (vs := [.agg #[I r004, I r014], I r111]) (v := .agg #[I r004, I r014]) rfl rfl) ?_
 refine s_val (x_ext (vs := [.agg #[I r004, I r014], I r111]) (v := I r111) rfl rfl) ?_
 refine t_alloc (cs := [I 0, I 0]) H Al35 rfl ?_
 intro b_30 w89z H
 refine t_st (k := 0) (b := b_30) (off := 0) (cs := [I 0, I 0]) (vs := [I r004, I r014]) (cs' := [I r004, I r014]) (v := .agg #[I r004, I r014]) (L' := [cBlk b_30 [I r004, I r014] 35, cOwn (α := Yr) 41 u0_26 r08, cOwn (α := Raw 3) 43 u1_27 rr2_28, cRo Bs3_29, cBlk b_25 [I r10, I r11] 63, cBlk b_24 [I r003, I r013] 63, cOwn (α := Yr) 41 u0_20 r07, cOwn (α := Raw 3) 43 u1_21 rr2_22, cRo Bs3_23, cBlk b_19 [I r002, I r012] 35, cOwn (α := Yr) 41 u0_15 r06, cOwn (α := Raw 3) 43 u1_16 rr2_17, cRo Bs3_18, cBlk b_14 [I r00, I r01] 35, cOwn (α := Yr) 41 u0_10 r05, cOwn (α := Raw 3) 43 u1_11 rr2_12, cRo Bs3_13, cRo Bs_9, cOwn (α := Int) 3 v33z ([(0 : Int), (99 : Int), (120 : Int), (80 : Int)]), cOwn (α := Pk) 72 u0_7 r5, cOwn (α := Int) 3 v23z ([(0 : Int), (100 : Int), (120 : Int), (80 : Int)]), cOwn (α := Pk) 72 u0_5 r4, cOwn (α := Int) 3 v13z ([(1 : Int), (3 : Int)]), cOwn (α := Pk) 72 u0_3 r3, cOwn (α := Int) 3 u0_2 r0, cOwn (α := Pk) 72 u0_1 r2]) H rfl rfl rfl Sz35 rfl rfl rfl rfl rfl rfl ?_
 intro w90z H
 refine s_val (x_as (v := I r111) rfl) ?_
 refine s_nil ?_
 refine W.seq ?_
 refine W.region rfl ?_
 refine s_val (x_mv (v := I r16) rfl) ?_
 refine s_val (x_cmp (kd := .i64) (a := r16) (b := 0) (r := r16 == 0) rfl rfl rfl) ?_
 refine s_val (x_mv (v := B (r16 == 0)) rfl) ?_
 refine g_val (r16 == 0) (gy_t rfl) (fun hg => x_mv (v := I r18) rfl) ?_
 refine g_val (r16 == 0) (gy_t rfl) (fun hg => x_cmp (kd := .i64) (a := r18) (b := 0) (r := r18 == 0) (gd_of (c := r16 == 0) hg (I r18)) rfl rfl) ?_
 refine s_val (x_pand (b := r16 == 0) (r := r18 == 0) rfl (fun hb => gd_of (c := r16 == 0) (by first | exact hb | (rw [hb]; rfl) | simp_all) (B (r18 == 0))) rfl) ?_
 refine s_val (x_mv (v := B ((r16 == 0) && (r18 == 0))) rfl) ?_
 refine g_val ((r16 == 0) && (r18 == 0)) (gy_t rfl) (fun hg => x_mv (v := I r26) rfl) ?_
 refine g_val ((r16 == 0) && (r18 == 0)) (gy_t rfl) (fun hg => x_cmp (kd := .i64) (a := r26) (b := 0) (r := r26 == 0) (gd_of (c := ((r16 == 0) && (r18 == 0))) hg (I r26)) rfl rfl) ?_
 refine s_val (x_pand (b := ((r16 == 0) && (r18 == 0))) (r := r26 == 0) rfl (fun hb => gd_of (c := ((r16 == 0) && (r18 == 0))) (by first | exact hb | (rw [hb]; rfl) | simp_all) (B (r26 == 0))) rfl) ?_
 refine s_val (x_mv (v := B (((r16 == 0) && (r18 == 0)) && (r26 == 0))) rfl) ?_
 refine g_val (((r16 == 0) && (r18 == 0)) && (r26 == 0)) (gy_t rfl) (fun hg => x_mv (v := I r111) rfl) ?_
 refine g_val (((r16 == 0) && (r18 == 0)) && (r26 == 0)) (gy_t rfl) (fun hg => x_cmp (kd := .i64) (a := r111) (b := 0) (r := r111 == 0) (gd_of (c := (((r16 == 0) && (r18 == 0)) && (r26 == 0))) hg (I r111)) rfl rfl) ?_
 refine s_val (x_pand (b := (((r16 == 0) && (r18 == 0)) && (r26 == 0))) (r := r111 == 0) rfl (fun hb => gd_of (c := (((r16 == 0) && (r18 == 0)) && (r26 == 0))) (by first | exact hb | (rw [hb]; rfl) | simp_all) (B (r111 == 0))) rfl) ?_
 refine s_val (x_mv (v := B ((((r16 == 0) && (r18 == 0)) && (r26 == 0)) && (r111 == 0))) rfl) ?_
 refine g_val ((((r16 == 0) && (r18 == 0)) && (r26 == 0)) && (r111 == 0)) (gy_t rfl) (fun hg => x_ld (p := .pointer (some ⟨b_14, 0, none⟩)) (v := .agg #[I r00, I r01]) rfl (ldb_ag (ds := [I r00, I r01]) Ag35 Sz35 (H.blk (k := 13) rfl) rfl rfl)) ?_
 refine g_val ((((r16 == 0) && (r18 == 0)) && (r26 == 0)) && (r111 == 0)) (gy_t rfl) (fun hg => x_bld (ps := [(0, I 1), (1, I 4)]) (zs := [I 0, I 0]) (L' := [I 1, I 4]) rfl Try.underlying35 Al35 rfl (Bd35 Try.underlying35) (.cons (cs := [I 1]) rfl rfl rfl rfl rfl <| .cons (cs := [I 4]) rfl rfl rfl rfl rfl <| .nil)) ?_
 refine g_val ((((r16 == 0) && (r18 == 0)) && (r26 == 0)) && (r111 == 0)) (gy_t rfl) (fun hg => x_eqS (eqT35 (⟨(r00 : Int), (r01 : Int)⟩ : Span) (⟨(1 : Int), (4 : Int)⟩ : Span) _) gdT35 (gd_of (c := ((((r16 == 0) && (r18 == 0)) && (r26 == 0)) && (r111 == 0))) hg (.agg #[I r00, I r01])) (gd_of (c := ((((r16 == 0) && (r18 == 0)) && (r26 == 0)) && (r111 == 0))) hg (.agg #[I 1, I 4]))) ?_
 refine s_val (x_pand (b := ((((r16 == 0) && (r18 == 0)) && (r26 == 0)) && (r111 == 0))) (r := decide ((⟨(r00 : Int), (r01 : Int)⟩ : Span) = (⟨(1 : Int), (4 : Int)⟩ : Span))) rfl (fun hb => gd_of (c := ((((r16 == 0) && (r18 == 0)) && (r26 == 0)) && (r111 == 0))) (by first | exact hb | (rw [hb]; rfl) | simp_all) (B (decide ((⟨(r00 : Int), (r01 : Int)⟩ : Span) = (⟨(1 : Int), (4 : Int)⟩ : Span))))) rfl) ?_
 refine s_val (x_mv (v := B (((((r16 == 0) && (r18 == 0)) && (r26 == 0)) && (r111 == 0)) && (decide ((⟨(r00 : Int), (r01 : Int)⟩ : Span) = (⟨(1 : Int), (4 : Int)⟩ : Span))))) rfl) ?_
 refine g_val (((((r16 == 0) && (r18 == 0)) && (r26 == 0)) && (r111 == 0)) && (decide ((⟨(r00 : Int), (r01 : Int)⟩ : Span) = (⟨(1 : Int), (4 : Int)⟩ : Span)))) (gy_t rfl) (fun hg => x_ld (p := .pointer (some ⟨b_19, 0, none⟩)) (v := .agg #[I r002, I r012]) rfl (ldb_ag (ds := [I r002, I r012]) Ag35 Sz35 (H.blk (k := 9) rfl) rfl rfl)) ?_
 refine g_val (((((r16 == 0) && (r18 == 0)) && (r26 == 0)) && (r111 == 0)) && (decide ((⟨(r00 : Int), (r01 : Int)⟩ : Span) = (⟨(1 : Int), (4 : Int)⟩ : Span)))) (gy_t rfl) (fun hg => x_bld (ps := [(0, I 1), (1, I 9)]) (zs := [I 0, I 0]) (L' := [I 1, I 9]) rfl Try.underlying35 Al35 rfl (Bd35 Try.underlying35) (.cons (cs := [I 1]) rfl rfl rfl rfl rfl <| .cons (cs := [I 9]) rfl rfl rfl rfl rfl <| .nil)) ?_
 refine g_val (((((r16 == 0) && (r18 == 0)) && (r26 == 0)) && (r111 == 0)) && (decide ((⟨(r00 : Int), (r01 : Int)⟩ : Span) = (⟨(1 : Int), (4 : Int)⟩ : Span)))) (gy_t rfl) (fun hg => x_eqS (eqT35 (⟨(r002 : Int), (r012 : Int)⟩ : Span) (⟨(1 : Int), (9 : Int)⟩ : Span) _) gdT35 (gd_of (c := (((((r16 == 0) && (r18 == 0)) && (r26 == 0)) && (r111 == 0)) && (decide ((⟨(r00 : Int), (r01 : Int)⟩ : Span) = (⟨(1 : Int), (4 : Int)⟩ : Span))))) hg (.agg #[I r002, I r012])) (gd_of (c := (((((r16 == 0) && (r18 == 0)) && (r26 == 0)) && (r111 == 0)) && (decide ((⟨(r00 : Int), (r01 : Int)⟩ : Span) = (⟨(1 : Int), (4 : Int)⟩ : Span))))) hg (.agg #[I 1, I 9]))) ?_
 refine s_val (x_pand (b := (((((r16 == 0) && (r18 == 0)) && (r26 == 0)) && (r111 == 0)) && (decide ((⟨(r00 : Int), (r01 : Int)⟩ : Span) = (⟨(1 : Int), (4 : Int)⟩ : Span))))) (r := decide ((⟨(r002 : Int), (r012 : Int)⟩ : Span) = (⟨(1 : Int), (9 : Int)⟩ : Span))) rfl (fun hb => gd_of (c := (((((r16 == 0) && (r18 == 0)) && (r26 == 0)) && (r111 == 0)) && (decide ((⟨(r00 : Int), (r01 : Int)⟩ : Span) = (⟨(1 : Int), (4 : Int)⟩ : Span))))) (by first | exact hb | (rw [hb]; rfl) | simp_all) (B (decide ((⟨(r002 : Int), (r012 : Int)⟩ : Span) = (⟨(1 : Int), (9 : Int)⟩ : Span))))) rfl) ?_
 refine s_val (x_mv (v := B ((((((r16 == 0) && (r18 == 0)) && (r26 == 0)) && (r111 == 0)) && (decide ((⟨(r00 : Int), (r01 : Int)⟩ : Span) = (⟨(1 : Int), (4 : Int)⟩ : Span)))) && (decide ((⟨(r002 : Int), (r012 : Int)⟩ : Span) = (⟨(1 : Int), (9 : Int)⟩ : Span))))) rfl) ?_
 refine g_val ((((((r16 == 0) && (r18 == 0)) && (r26 == 0)) && (r111 == 0)) && (decide ((⟨(r00 : Int), (r01 : Int)⟩ : Span) = (⟨(1 : Int), (4 : Int)⟩ : Span)))) && (decide ((⟨(r002 : Int), (r012 : Int)⟩ : Span) = (⟨(1 : Int), (9 : Int)⟩ : Span)))) (gy_t rfl) (fun hg => x_ld (p := .pointer (some ⟨b_24, 0, none⟩)) (v := .agg #[I r003, I r013]) rfl (ldb_ag (ds := [I r003, I r013]) Ag63 Sz63 (H.blk (k := 5) rfl) rfl rfl)) ?_
 refine g_val ((((((r16 == 0) && (r18 == 0)) && (r26 == 0)) && (r111 == 0)) && (decide ((⟨(r00 : Int), (r01 : Int)⟩ : Span) = (⟨(1 : Int), (4 : Int)⟩ : Span)))) && (decide ((⟨(r002 : Int), (r012 : Int)⟩ : Span) = (⟨(1 : Int), (9 : Int)⟩ : Span)))) (gy_t rfl) (fun hg => x_bld (ps := [(0, I 1), (1, I 10)]) (zs := [I 0, I 0]) (L' := [I 1, I 10]) rfl Try.underlying63 Al63 rfl (Bd63 Try.underlying63) (.cons (cs := [I 1]) rfl rfl rfl rfl rfl <| .cons (cs := [I 10]) rfl rfl rfl rfl rfl <| .nil)) ?_
 refine g_val ((((((r16 == 0) && (r18 == 0)) && (r26 == 0)) && (r111 == 0)) && (decide ((⟨(r00 : Int), (r01 : Int)⟩ : Span) = (⟨(1 : Int), (4 : Int)⟩ : Span)))) && (decide ((⟨(r002 : Int), (r012 : Int)⟩ : Span) = (⟨(1 : Int), (9 : Int)⟩ : Span)))) (gy_t rfl) (fun hg => x_eqS (eqT63 (⟨(r003 : Int), (r013 : Int)⟩ : Rto) (⟨(1 : Int), (10 : Int)⟩ : Rto) _) gdT63 (gd_of (c := ((((((r16 == 0) && (r18 == 0)) && (r26 == 0)) && (r111 == 0)) && (decide ((⟨(r00 : Int), (r01 : Int)⟩ : Span) = (⟨(1 : Int), (4 : Int)⟩ : Span)))) && (decide ((⟨(r002 : Int), (r012 : Int)⟩ : Span) = (⟨(1 : Int), (9 : Int)⟩ : Span))))) hg (.agg #[I r003, I r013])) (gd_of (c := ((((((r16 == 0) && (r18 == 0)) && (r26 == 0)) && (r111 == 0)) && (decide ((⟨(r00 : Int), (r01 : Int)⟩ : Span) = (⟨(1 : Int), (4 : Int)⟩ : Span)))) && (decide ((⟨(r002 : Int), (r012 : Int)⟩ : Span) = (⟨(1 : Int), (9 : Int)⟩ : Span))))) hg (.agg #[I 1, I 10]))) ?_
 refine s_val (x_pand (b := ((((((r16 == 0) && (r18 == 0)) && (r26 == 0)) && (r111 == 0)) && (decide ((⟨(r00 : Int), (r01 : Int)⟩ : Span) = (⟨(1 : Int), (4 : Int)⟩ : Span)))) && (decide ((⟨(r002 : Int), (r012 : Int)⟩ : Span) = (⟨(1 : Int), (9 : Int)⟩ : Span))))) (r := decide ((⟨(r003 : Int), (r013 : Int)⟩ : Rto) = (⟨(1 : Int), (10 : Int)⟩ : Rto))) rfl (fun hb => gd_of (c := ((((((r16 == 0) && (r18 == 0)) && (r26 == 0)) && (r111 == 0)) && (decide ((⟨(r00 : Int), (r01 : Int)⟩ : Span) = (⟨(1 : Int), (4 : Int)⟩ : Span)))) && (decide ((⟨(r002 : Int), (r012 : Int)⟩ : Span) = (⟨(1 : Int), (9 : Int)⟩ : Span))))) (by first | exact hb | (rw [hb]; rfl) | simp_all) (B (decide ((⟨(r003 : Int), (r013 : Int)⟩ : Rto) = (⟨(1 : Int), (10 : Int)⟩ : Rto))))) rfl) ?_
 refine s_val (x_mv (v := B (((((((r16 == 0) && (r18 == 0)) && (r26 == 0)) && (r111 == 0)) && (decide ((⟨(r00 : Int), (r01 : Int)⟩ : Span) = (⟨(1 : Int), (4 : Int)⟩ : Span)))) && (decide ((⟨(r002 : Int), (r012 : Int)⟩ : Span) = (⟨(1 : Int), (9 : Int)⟩ : Span)))) && (decide ((⟨(r003 : Int), (r013 : Int)⟩ : Rto) = (⟨(1 : Int), (10 : Int)⟩ : Rto))))) rfl) ?_
 refine g_val (((((((r16 == 0) && (r18 == 0)) && (r26 == 0)) && (r111 == 0)) && (decide ((⟨(r00 : Int), (r01 : Int)⟩ : Span) = (⟨(1 : Int), (4 : Int)⟩ : Span)))) && (decide ((⟨(r002 : Int), (r012 : Int)⟩ : Span) = (⟨(1 : Int), (9 : Int)⟩ : Span)))) && (decide ((⟨(r003 : Int), (r013 : Int)⟩ : Rto) = (⟨(1 : Int), (10 : Int)⟩ : Rto)))) (gy_t rfl) (fun hg => x_ld (p := .pointer (some ⟨b_25, 0, none⟩)) (v := .agg #[I r10, I r11]) rfl (ldb_ag (ds := [I r10, I r11]) Ag63 Sz63 (H.blk (k := 4) rfl) rfl rfl)) ?_
 refine g_val (((((((r16 == 0) && (r18 == 0)) && (r26 == 0)) && (r111 == 0)) && (decide ((⟨(r00 : Int), (r01 : Int)⟩ : Span) = (⟨(1 : Int), (4 : Int)⟩ : Span)))) && (decide ((⟨(r002 : Int), (r012 : Int)⟩ : Span) = (⟨(1 : Int), (9 : Int)⟩ : Span)))) && (decide ((⟨(r003 : Int), (r013 : Int)⟩ : Rto) = (⟨(1 : Int), (10 : Int)⟩ : Rto)))) (gy_t rfl) (fun hg => x_bld (ps := [(0, I 9), (1, I 10)]) (zs := [I 0, I 0]) (L' := [I 9, I 10]) rfl Try.underlying63 Al63 rfl (Bd63 Try.underlying63) (.cons (cs := [I 9]) rfl rfl rfl rfl rfl <| .cons (cs := [I 10]) rfl rfl rfl rfl rfl <| .nil)) ?_
 refine g_val (((((((r16 == 0) && (r18 == 0)) && (r26 == 0)) && (r111 == 0)) && (decide ((⟨(r00 : Int), (r01 : Int)⟩ : Span) = (⟨(1 : Int), (4 : Int)⟩ : Span)))) && (decide ((⟨(r002 : Int), (r012 : Int)⟩ : Span) = (⟨(1 : Int), (9 : Int)⟩ : Span)))) && (decide ((⟨(r003 : Int), (r013 : Int)⟩ : Rto) = (⟨(1 : Int), (10 : Int)⟩ : Rto)))) (gy_t rfl) (fun hg => x_eqS (eqT63 (⟨(r10 : Int), (r11 : Int)⟩ : Rto) (⟨(9 : Int), (10 : Int)⟩ : Rto) _) gdT63 (gd_of (c := (((((((r16 == 0) && (r18 == 0)) && (r26 == 0)) && (r111 == 0)) && (decide ((⟨(r00 : Int), (r01 : Int)⟩ : Span) = (⟨(1 : Int), (4 : Int)⟩ : Span)))) && (decide ((⟨(r002 : Int), (r012 : Int)⟩ : Span) = (⟨(1 : Int), (9 : Int)⟩ : Span)))) && (decide ((⟨(r003 : Int), (r013 : Int)⟩ : Rto) = (⟨(1 : Int), (10 : Int)⟩ : Rto))))) hg (.agg #[I r10, I r11])) (gd_of (c := (((((((r16 == 0) && (r18 == 0)) && (r26 == 0)) && (r111 == 0)) && (decide ((⟨(r00 : Int), (r01 : Int)⟩ : Span) = (⟨(1 : Int), (4 : Int)⟩ : Span)))) && (decide ((⟨(r002 : Int), (r012 : Int)⟩ : Span) = (⟨(1 : Int), (9 : Int)⟩ : Span)))) && (decide ((⟨(r003 : Int), (r013 : Int)⟩ : Rto) = (⟨(1 : Int), (10 : Int)⟩ : Rto))))) hg (.agg #[I 9, I 10]))) ?_
 refine s_val (x_pand (b := (((((((r16 == 0) && (r18 == 0)) && (r26 == 0)) && (r111 == 0)) && (decide ((⟨(r00 : Int), (r01 : Int)⟩ : Span) = (⟨(1 : Int), (4 : Int)⟩ : Span)))) && (decide ((⟨(r002 : Int), (r012 : Int)⟩ : Span) = (⟨(1 : Int), (9 : Int)⟩ : Span)))) && (decide ((⟨(r003 : Int), (r013 : Int)⟩ : Rto) = (⟨(1 : Int), (10 : Int)⟩ : Rto))))) (r := decide ((⟨(r10 : Int), (r11 : Int)⟩ : Rto) = (⟨(9 : Int), (10 : Int)⟩ : Rto))) rfl (fun hb => gd_of (c := (((((((r16 == 0) && (r18 == 0)) && (r26 == 0)) && (r111 == 0)) && (decide ((⟨(r00 : Int), (r01 : Int)⟩ : Span) = (⟨(1 : Int), (4 : Int)⟩ : Span)))) && (decide ((⟨(r002 : Int), (r012 : Int)⟩ : Span) = (⟨(1 : Int), (9 : Int)⟩ : Span)))) && (decide ((⟨(r003 : Int), (r013 : Int)⟩ : Rto) = (⟨(1 : Int), (10 : Int)⟩ : Rto))))) (by first | exact hb | (rw [hb]; rfl) | simp_all) (B (decide ((⟨(r10 : Int), (r11 : Int)⟩ : Rto) = (⟨(9 : Int), (10 : Int)⟩ : Rto))))) rfl) ?_
 refine s_val (x_mv (v := B ((((((((r16 == 0) && (r18 == 0)) && (r26 == 0)) && (r111 == 0)) && (decide ((⟨(r00 : Int), (r01 : Int)⟩ : Span) = (⟨(1 : Int), (4 : Int)⟩ : Span)))) && (decide ((⟨(r002 : Int), (r012 : Int)⟩ : Span) = (⟨(1 : Int), (9 : Int)⟩ : Span)))) && (decide ((⟨(r003 : Int), (r013 : Int)⟩ : Rto) = (⟨(1 : Int), (10 : Int)⟩ : Rto)))) && (decide ((⟨(r10 : Int), (r11 : Int)⟩ : Rto) = (⟨(9 : Int), (10 : Int)⟩ : Rto))))) rfl) ?_
 refine g_val ((((((((r16 == 0) && (r18 == 0)) && (r26 == 0)) && (r111 == 0)) && (decide ((⟨(r00 : Int), (r01 : Int)⟩ : Span) = (⟨(1 : Int), (4 : Int)⟩ : Span)))) && (decide ((⟨(r002 : Int), (r012 : Int)⟩ : Span) = (⟨(1 : Int), (9 : Int)⟩ : Span)))) && (decide ((⟨(r003 : Int), (r013 : Int)⟩ : Rto) = (⟨(1 : Int), (10 : Int)⟩ : Rto)))) && (decide ((⟨(r10 : Int), (r11 : Int)⟩ : Rto) = (⟨(9 : Int), (10 : Int)⟩ : Rto)))) (gy_t rfl) (fun hg => x_ld (p := .pointer (some ⟨b_30, 0, none⟩)) (v := .agg #[I r004, I r014]) rfl (ldb_ag (ds := [I r004, I r014]) Ag35 Sz35 (H.blk (k := 0) rfl) rfl rfl)) ?_
 refine g_val ((((((((r16 == 0) && (r18 == 0)) && (r26 == 0)) && (r111 == 0)) && (decide ((⟨(r00 : Int), (r01 : Int)⟩ : Span) = (⟨(1 : Int), (4 : Int)⟩ : Span)))) && (decide ((⟨(r002 : Int), (r012 : Int)⟩ : Span) = (⟨(1 : Int), (9 : Int)⟩ : Span)))) && (decide ((⟨(r003 : Int), (r013 : Int)⟩ : Rto) = (⟨(1 : Int), (10 : Int)⟩ : Rto)))) && (decide ((⟨(r10 : Int), (r11 : Int)⟩ : Rto) = (⟨(9 : Int), (10 : Int)⟩ : Rto)))) (gy_t rfl) (fun hg => x_bld (ps := [(0, I 400), (1, I 499)]) (zs := [I 0, I 0]) (L' := [I 400, I 499]) rfl Try.underlying35 Al35 rfl (Bd35 Try.underlying35) (.cons (cs := [I 400]) rfl rfl rfl rfl rfl <| .cons (cs := [I 499]) rfl rfl rfl rfl rfl <| .nil)) ?_
 refine g_val ((((((((r16 == 0) && (r18 == 0)) && (r26 == 0)) && (r111 == 0)) && (decide ((⟨(r00 : Int), (r01 : Int)⟩ : Span) = (⟨(1 : Int), (4 : Int)⟩ : Span)))) && (decide ((⟨(r002 : Int), (r012 : Int)⟩ : Span) = (⟨(1 : Int), (9 : Int)⟩ : Span)))) && (decide ((⟨(r003 : Int), (r013 : Int)⟩ : Rto) = (⟨(1 : Int), (10 : Int)⟩ : Rto)))) && (decide ((⟨(r10 : Int), (r11 : Int)⟩ : Rto) = (⟨(9 : Int), (10 : Int)⟩ : Rto)))) (gy_t rfl) (fun hg => x_eqS (eqT35 (⟨(r004 : Int), (r014 : Int)⟩ : Span) (⟨(400 : Int), (499 : Int)⟩ : Span) _) gdT35 (gd_of (c := ((((((((r16 == 0) && (r18 == 0)) && (r26 == 0)) && (r111 == 0)) && (decide ((⟨(r00 : Int), (r01 : Int)⟩ : Span) = (⟨(1 : Int), (4 : Int)⟩ : Span)))) && (decide ((⟨(r002 : Int), (r012 : Int)⟩ : Span) = (⟨(1 : Int), (9 : Int)⟩ : Span)))) && (decide ((⟨(r003 : Int), (r013 : Int)⟩ : Rto) = (⟨(1 : Int), (10 : Int)⟩ : Rto)))) && (decide ((⟨(r10 : Int), (r11 : Int)⟩ : Rto) = (⟨(9 : Int), (10 : Int)⟩ : Rto))))) hg (.agg #[I r004, I r014])) (gd_of (c := ((((((((r16 == 0) && (r18 == 0)) && (r26 == 0)) && (r111 == 0)) && (decide ((⟨(r00 : Int), (r01 : Int)⟩ : Span) = (⟨(1 : Int), (4 : Int)⟩ : Span)))) && (decide ((⟨(r002 : Int), (r012 : Int)⟩ : Span) = (⟨(1 : Int), (9 : Int)⟩ : Span)))) && (decide ((⟨(r003 : Int), (r013 : Int)⟩ : Rto) = (⟨(1 : Int), (10 : Int)⟩ : Rto)))) && (decide ((⟨(r10 : Int), (r11 : Int)⟩ : Rto) = (⟨(9 : Int), (10 : Int)⟩ : Rto))))) hg (.agg #[I 400, I 499]))) ?_
 refine s_val (x_pand (b := ((((((((r16 == 0) && (r18 == 0)) && (r26 == 0)) && (r111 == 0)) && (decide ((⟨(r00 : Int), (r01 : Int)⟩ : Span) = (⟨(1 : Int), (4 : Int)⟩ : Span)))) && (decide ((⟨(r002 : Int), (r012 : Int)⟩ : Span) = (⟨(1 : Int), (9 : Int)⟩ : Span)))) && (decide ((⟨(r003 : Int), (r013 : Int)⟩ : Rto) = (⟨(1 : Int), (10 : Int)⟩ : Rto)))) && (decide ((⟨(r10 : Int), (r11 : Int)⟩ : Rto) = (⟨(9 : Int), (10 : Int)⟩ : Rto))))) (r := decide ((⟨(r004 : Int), (r014 : Int)⟩ : Span) = (⟨(400 : Int), (499 : Int)⟩ : Span))) rfl (fun hb => gd_of (c := ((((((((r16 == 0) && (r18 == 0)) && (r26 == 0)) && (r111 == 0)) && (decide ((⟨(r00 : Int), (r01 : Int)⟩ : Span) = (⟨(1 : Int), (4 : Int)⟩ : Span)))) && (decide ((⟨(r002 : Int), (r012 : Int)⟩ : Span) = (⟨(1 : Int), (9 : Int)⟩ : Span)))) && (decide ((⟨(r003 : Int), (r013 : Int)⟩ : Rto) = (⟨(1 : Int), (10 : Int)⟩ : Rto)))) && (decide ((⟨(r10 : Int), (r11 : Int)⟩ : Rto) = (⟨(9 : Int), (10 : Int)⟩ : Rto))))) (by first | exact hb | (rw [hb]; rfl) | simp_all) (B (decide ((⟨(r004 : Int), (r014 : Int)⟩ : Span) = (⟨(400 : Int), (499 : Int)⟩ : Span))))) rfl) ?_
 refine s_val (x_as (v := B (((((((((r16 == 0) && (r18 == 0)) && (r26 == 0)) && (r111 == 0)) && (decide ((⟨(r00 : Int), (r01 : Int)⟩ : Span) = (⟨(1 : Int), (4 : Int)⟩ : Span)))) && (decide ((⟨(r002 : Int), (r012 : Int)⟩ : Span) = (⟨(1 : Int), (9 : Int)⟩ : Span)))) && (decide ((⟨(r003 : Int), (r013 : Int)⟩ : Rto) = (⟨(1 : Int), (10 : Int)⟩ : Rto)))) && (decide ((⟨(r10 : Int), (r11 : Int)⟩ : Rto) = (⟨(9 : Int), (10 : Int)⟩ : Rto)))) && (decide ((⟨(r004 : Int), (r014 : Int)⟩ : Span) = (⟨(400 : Int), (499 : Int)⟩ : Span))))) rfl) ?_
 refine s_nil ?_
 refine W.ret ?_
 have hr_ := M.e_pure hM
 exact ⟨_, resE_tmp rfl, ⟨(((((((((r16 == 0) && (r18 == 0)) && (r26 == 0)) && (r111 == 0)) && (decide ((⟨(r00 : Int), (r01 : Int)⟩ : Span) = (⟨(1 : Int), (4 : Int)⟩ : Span)))) && (decide ((⟨(r002 : Int), (r012 : Int)⟩ : Span) = (⟨(1 : Int), (9 : Int)⟩ : Span)))) && (decide ((⟨(r003 : Int), (r013 : Int)⟩ : Rto) = (⟨(1 : Int), (10 : Int)⟩ : Rto)))) && (decide ((⟨(r10 : Int), (r11 : Int)⟩ : Rto) = (⟨(9 : Int), (10 : Int)⟩ : Rto)))) && (decide ((⟨(r004 : Int), (r014 : Int)⟩ : Span) = (⟨(400 : Int), (499 : Int)⟩ : Span)))), hr_, rfl, (H.pick [] (by decide) rfl)⟩⟩

end Go.Proofs.Ytcgalcbkkijkhaa
end
section
set_option maxRecDepth 100000
set_option maxHeartbeats 16000000
namespace Go.Proofs.Ytcgalcbkkijkhaa
open Go Go.Nm
def za2 (l : List Int) : M (List Int) :=
  M.grd (decide ((([] : List Int).length + l.length) * 8 <= 140737488355328)) <|
  M.pure l
theorem zbP {R : List Chunk} {C_l : Cells} {v_l : Value} (l : List Int) (hC_l : Reads R C_l) (hs_l : Sl C_l v_l l) {r : (List Int)} (hM : (za2 l).Ends r) (w : World) (H : St w w [] R) : Ret Try.prog 31 #[v_l] w fun v w' => ∃ (y0 : List Int) (u0 : Value), y0 = r /\ v = u0 /\ St w w' [cOwn (α := Int) 3 u0 y0] R := by
 refine ret_of_W Try.func31 rfl rfl rfl ?_
 refine W.seq ?_
 refine W.region rfl ?_
 refine s_val (x_as (v := .slice none 0 0) rfl) ?_
 refine s_nil ?_
 refine W.seq ?_
 refine W.region rfl ?_
 refine s_val (x_as (v := .slice none 0 0) rfl) ?_
 refine s_nil ?_
 refine W.seq ?_
 refine W.region rfl ?_
 refine s_val (x_mv (v := .slice none 0 0) rfl) ?_
 refine s_val (x_mv (v := v_l) rfl) ?_
 replace H : St w w [cOwn (α := Int) 3 (.slice none 0 0) ([])] R := H.nilOwn (α := Int) 3
 obtain ⟨sd1z, hM⟩ := M.e_grd hM
 simp only [Bool.and_eq_true, decide_eq_true_eq] at sd1z
 refine t_app (α := Int) (k := 0) (l := []) (l2 := l) (l' := l) (vy := v_l) T27 rfl H rfl rfl rfl hs_l (hC_l.at H) (List.nil_append _) (by first | omega | (simp only [List.length_nil] at *; omega)) ?_
 intro v2z w3z H
 replace H : St w w3z [cOwn (α := Int) 3 v2z l] R := H
 refine s_val (x_as (v := v2z) rfl) ?_
 refine s_nil ?_
 refine W.ret ?_
 have hr_ := M.e_pure hM
 exact ⟨_, resE_tmp rfl, ⟨l, v2z, hr_, rfl, H⟩⟩

end Go.Proofs.Ytcgalcbkkijkhaa
end
section
set_option maxRecDepth 100000
set_option maxHeartbeats 16000000
namespace Go.Proofs.Ytcgalcbkkijkhaa
open Go Go.Nm
end Go.Proofs.Ytcgalcbkkijkhaa
end
section
set_option maxRecDepth 100000
set_option maxHeartbeats 16000000
namespace Go.Proofs.Ytcgalcbkkijkhaa
open Go Go.Nm
def za1 (l : List Yr) : M (List Yr) :=
  M.grd (decide ((([] : List Yr).length + l.length) * 24 <= 140737488355328)) <|
  M.pure l
theorem zcc {R : List Chunk} {C_l : Cells} {v_l : Value} (l : List Yr) (hC_l : Reads R C_l) (hs_l : Sl C_l v_l l) {r : (List Yr)} (hM : (za1 l).Ends r) (w : World) (H : St w w [] R) : Ret Try.prog 57 #[v_l] w fun v w' => ∃ (y0 : List Yr) (u0 : Value), y0 = r /\ v = u0 /\ St w w' [cOwn (α := Yr) 41 u0 y0] R := by
 refine ret_of_W Try.func57 rfl rfl rfl ?_
 refine W.seq ?_
 refine W.region rfl ?_
 refine s_val (x_as (v := .slice none 0 0) rfl) ?_
 refine s_nil ?_
 refine W.seq ?_
 refine W.region rfl ?_
 refine s_val (x_as (v := .slice none 0 0) rfl) ?_
 refine s_nil ?_
 refine W.seq ?_
 refine W.region rfl ?_
 refine s_val (x_mv (v := .slice none 0 0) rfl) ?_
 refine s_val (x_mv (v := v_l) rfl) ?_
 replace H : St w w [cOwn (α := Yr) 41 (.slice none 0 0) ([])] R := H.nilOwn (α := Yr) 41
 obtain ⟨sd1z, hM⟩ := M.e_grd hM
 simp only [Bool.and_eq_true, decide_eq_true_eq] at sd1z
 refine t_app (α := Yr) (k := 0) (l := []) (l2 := l) (l' := l) (vy := v_l) T23 rfl H rfl rfl rfl hs_l (hC_l.at H) (List.nil_append _) (by first | omega | (simp only [List.length_nil] at *; omega)) ?_
 intro v2z w3z H
 replace H : St w w3z [cOwn (α := Yr) 41 v2z l] R := H
 refine s_val (x_as (v := v2z) rfl) ?_
 refine s_nil ?_
 refine W.ret ?_
 have hr_ := M.e_pure hM
 exact ⟨_, resE_tmp rfl, ⟨l, v2z, hr_, rfl, H⟩⟩

def zbh (b_Olds : List Old10) : (Nat × (List Old10)) -> M ((Nat × (List Old10)) ⊕ ((List Old10) × (List Old10))) := fun (i, l) =>
  bif decide ((i : Int) < (b_Olds.length : Int)) then (
  M.grd (decide ((i : Int) < (b_Olds.length : Int))) <|
  M.bind (za2 ((b_Olds.getD i default).passed)) fun r3 =>
  M.grd (decide ((l.length + ([(⟨((b_Olds.getD i default).src : Int), ((b_Olds.getD i default).dst : Int), ((b_Olds.getD i default).stage : Int), r3⟩ : Old10)]).length) * 48 <= 140737488355328)) <|
  M.pure (.inl (i + 1, l ++ ([(⟨((b_Olds.getD i default).src : Int), ((b_Olds.getD i default).dst : Int), ((b_Olds.getD i default).stage : Int), r3⟩ : Old10)]))))
  else (
  M.pure (.inr (l, l)))
def zbo (b_Years : List Yr) (b_Olds : List Old10) (b_First : Int) (b_Last : Int) : M ((List Yr) × (List Old10) × Int × Int) :=
  M.bind (za1 b_Years) fun r2 =>
  M.bind (M.iter (zbh b_Olds) (0, [])) fun (l2, l3) =>
  M.pure (r2, l3, b_First, b_Last)
end Go.Proofs.Ytcgalcbkkijkhaa
end
section
set_option maxRecDepth 100000
set_option maxHeartbeats 16000000
namespace Go.Proofs.Ytcgalcbkkijkhaa
open Go Go.Nm
end Go.Proofs.Ytcgalcbkkijkhaa
end
section
set_option maxRecDepth 100000
set_option maxHeartbeats 16000000
namespace Go.Proofs.Ytcgalcbkkijkhaa
open Go Go.Nm
end Go.Proofs.Ytcgalcbkkijkhaa
end
section
set_option maxRecDepth 100000
set_option maxHeartbeats 16000000
namespace Go.Proofs.Ytcgalcbkkijkhaa
open Go Go.Nm
def za4 (bytes : List UInt8) : M (Int × Int) :=
  M.pure (0, 0)
theorem zb4 {R : List Chunk} {C_bytes : Cells} {v_bytes : Value} (bytes : List UInt8) (hC_bytes : Reads R C_bytes) (hs_bytes : Sl C_bytes v_bytes bytes) {r : (Int × Int)} (hM : (za4 bytes).Ends r) (w : World) (H : St w w [] R) : Ret Try.prog 12 #[v_bytes] w fun v w' => ∃ (y0 : Int) (y1 : Int) (nb0 : Nat), (y0, y1) = r /\ v = .pointer (some ⟨nb0, 0, none⟩) /\ St w w' [cBlk nb0 [v_bytes, I y0, I y1] 101] R := by
 refine ret_of_W Try.func12 rfl rfl rfl ?_
 refine W.seq ?_
 refine W.region rfl ?_
 refine s_val (x_as (v := .pointer none) rfl) ?_
 refine s_nil ?_
 refine W.seq ?_
 refine W.region rfl ?_
 refine s_val (x_mv (v := v_bytes) rfl) ?_
 refine s_val (x_bld (ps := [(0, v_bytes)]) (zs := [.slice none 0 0, I 0, I 0]) (L' := [v_bytes, I 0, I 0]) rfl Try.underlying101 Al101 rfl (Bd101 Try.underlying101) (.cons (cs := [v_bytes]) (Sl.cells hs_bytes) rfl rfl rfl rfl <| .nil)) ?_
 refine t_box (v := .agg #[v_bytes, I 0, I 0]) (cs := [v_bytes, I 0, I 0]) H rfl rfl ?_
 intro b_1 w1z H
 refine s_val (x_as (v := .pointer (some ⟨b_1, 0, none⟩)) rfl) ?_
 refine s_nil ?_
 refine W.ret ?_
 have hr_ := M.e_pure hM
 exact ⟨_, resE_tmp rfl, ⟨0, 0, b_1, hr_, rfl, H⟩⟩

def zan (v : Int) (n : Int) : M Int :=
  bif decide (n < 1) then (
  M.pure 0)
  else (
  M.grd (decide ((0 : Int) < n)) <|
  bif decide ((Int.tmod v n) < 0) then (
  M.grd (decide ((-9223372036854775808 : Int) <= ((Int.tmod v n) + n)) && decide (((Int.tmod v n) + n) <= (9223372036854775807 : Int))) <|
  M.pure ((Int.tmod v n) + n))
  else (
  M.pure (Int.tmod v n)))
theorem zaT {R : List Chunk}  (v : Int) (n : Int)  {r : Int} (hM : (zan v n).Ends r) (w : World) (H : St w w [] R) : Ret Try.prog 13 #[I v, I n] w fun v w' => ∃ (y0 : Int), y0 = r /\ v = I y0 /\ St w w' [] R := by
 refine ret_of_W Try.func13 rfl rfl rfl ?_
 refine W.seq ?_
 refine W.region rfl ?_
 refine s_val (x_as (v := I 0) rfl) ?_
 refine s_nil ?_
 refine W.seq ?_
 refine W.seq ?_
 refine W.region rfl ?_
 refine s_val (x_mv (v := I n) rfl) ?_
 refine s_val (x_cmp (kd := .i64) (a := n) (b := 1) (r := decide (n < 1)) rfl rfl rfl) ?_
 refine s_nil ?_
 refine W.cond (decide (n < 1)) rfl (fun c1z => ?_) (fun c1z => ?_)
 ·replace hM := M.e_t hM c1z
  simp only [decide_eq_true_eq, decide_eq_false_iff_not, beq_iff_eq, bne_iff_ne, beq_eq_false_iff_ne, bne_eq_false_iff_eq, ne_eq, Decidable.not_not] at c1z
  refine W.seq ?_
  refine W.region rfl ?_
  refine s_val (x_as (v := I 0) rfl) ?_
  refine s_nil ?_
  refine W.ret ?_
  have hr_ := M.e_pure hM
  exact ⟨_, resE_tmp rfl, ⟨0, hr_, rfl, H⟩⟩
 replace hM := M.e_f hM c1z
 simp only [decide_eq_true_eq, decide_eq_false_iff_not, beq_iff_eq, bne_iff_ne, beq_eq_false_iff_ne, bne_eq_false_iff_eq, ne_eq, Decidable.not_not] at c1z
 refine W.skip ?_
 refine W.seq ?_
 refine W.region rfl ?_
 refine s_val (x_mv (v := I v) rfl) ?_
 refine s_val (x_mv (v := I n) rfl) ?_
 obtain ⟨sd2z, hM⟩ := M.e_grd hM
 simp only [Bool.and_eq_true, decide_eq_true_eq] at sd2z
 refine s_val (x_rem (a := v) (b := n) rfl rfl (by omega)) ?_
 refine s_val (x_as (v := I (Int.tmod v n)) rfl) ?_
 refine s_nil ?_
 refine W.seq ?_
 refine W.seq ?_
 refine W.region rfl ?_
 refine s_val (x_mv (v := I (Int.tmod v n)) rfl) ?_
 refine s_val (x_cmp (kd := .i64) (a := Int.tmod v n) (b := 0) (r := decide ((Int.tmod v n) < 0)) rfl rfl rfl) ?_
 refine s_nil ?_
 refine W.cond (decide ((Int.tmod v n) < 0)) rfl (fun c3z => ?_) (fun c3z => ?_)
 ·replace hM := M.e_t hM c3z
  simp only [decide_eq_true_eq, decide_eq_false_iff_not, beq_iff_eq, bne_iff_ne, beq_eq_false_iff_ne, bne_eq_false_iff_eq, ne_eq, Decidable.not_not] at c3z
  refine W.region rfl ?_
  refine s_val (x_mv (v := I (Int.tmod v n)) rfl) ?_
  refine s_val (x_mv (v := I n) rfl) ?_
  obtain ⟨sd4z, hM⟩ := M.e_grd hM
  simp only [Bool.and_eq_true, decide_eq_true_eq] at sd4z
  refine s_val (x_ari (a := Int.tmod v n) (b := n) (r := (Int.tmod v n) + n) rfl rfl rfl (by omega)) ?_
  refine s_val (x_as (v := I ((Int.tmod v n) + n)) rfl) ?_
  refine s_nil ?_
  refine W.seq ?_
  refine W.region rfl ?_
  refine s_val (x_mv (v := I ((Int.tmod v n) + n)) rfl) ?_
  refine s_val (x_as (v := I ((Int.tmod v n) + n)) rfl) ?_
  refine s_nil ?_
  refine W.ret ?_
  have hr_ := M.e_pure hM
  exact ⟨_, resE_tmp rfl, ⟨((Int.tmod v n) + n), hr_, rfl, H⟩⟩
 replace hM := M.e_f hM c3z
 simp only [decide_eq_true_eq, decide_eq_false_iff_not, beq_iff_eq, bne_iff_ne, beq_eq_false_iff_ne, bne_eq_false_iff_eq, ne_eq, Decidable.not_not] at c3z
 refine W.skip ?_
 refine W.seq ?_
 refine W.region rfl ?_
 refine s_val (x_mv (v := I (Int.tmod v n)) rfl) ?_
 refine s_val (x_as (v := I (Int.tmod v n)) rfl) ?_
 refine s_nil ?_
 refine W.ret ?_
 have hr_ := M.e_pure hM
 exact ⟨_, resE_tmp rfl, ⟨(Int.tmod v n), hr_, rfl, H⟩⟩

def zad (s_bytes : List UInt8) (s_used : Int) (s_mix : Int) (n : Int) : M (Int × Int × Int) :=
  bif ((decide (n < 2)) || ((s_bytes.length : Int) == 0)) then (
  M.pure (0, s_used, s_mix))
  else (
  M.grd (decide ((0 : Int) <= s_used) && decide ((0 : Int) < (s_bytes.length : Int))) <|
  M.grd (decide ((0 : Int) <= (s_used % (s_bytes.length : Int))) && decide ((s_used % (s_bytes.length : Int)) < (s_bytes.length : Int))) <|
  M.grd (decide ((0 : Int) <= ((s_bytes.getD (Int.toNat (s_used % (s_bytes.length : Int))) 0).toNat : Int)) && decide (((s_bytes.getD (Int.toNat (s_used % (s_bytes.length : Int))) 0).toNat : Int) < (256 : Int))) <|
  bif decide ((s_bytes.length : Int) <= s_used) then (
  M.grd (decide ((-9223372036854775808 : Int) <= (11 * s_mix)) && decide ((11 * s_mix) <= (9223372036854775807 : Int))) <|
  M.grd (decide (0 <= s_used) && decide (s_used <= (9223372036854775807 : Int)) && decide ((0 : Int) < (s_bytes.length : Int))) <|
  M.grd (decide ((-9223372036854775808 : Int) <= ((11 * s_mix) + (s_used / (s_bytes.length : Int)))) && decide (((11 * s_mix) + (s_used / (s_bytes.length : Int))) <= (9223372036854775807 : Int))) <|
  M.grd (decide ((-9223372036854775808 : Int) <= (((s_bytes.getD (Int.toNat (s_used % (s_bytes.length : Int))) 0).toNat : Int) + ((11 * s_mix) + (s_used / (s_bytes.length : Int))))) && decide ((((s_bytes.getD (Int.toNat (s_used % (s_bytes.length : Int))) 0).toNat : Int) + ((11 * s_mix) + (s_used / (s_bytes.length : Int)))) <= (9223372036854775807 : Int))) <|
  M.grd (decide ((-9223372036854775808 : Int) <= (5 * s_mix)) && decide ((5 * s_mix) <= (9223372036854775807 : Int))) <|
  M.grd (decide ((-9223372036854775808 : Int) <= ((5 * s_mix) + (((s_bytes.getD (Int.toNat (s_used % (s_bytes.length : Int))) 0).toNat : Int) + ((11 * s_mix) + (s_used / (s_bytes.length : Int)))))) && decide (((5 * s_mix) + (((s_bytes.getD (Int.toNat (s_used % (s_bytes.length : Int))) 0).toNat : Int) + ((11 * s_mix) + (s_used / (s_bytes.length : Int))))) <= (9223372036854775807 : Int))) <|
  M.grd (decide ((-9223372036854775808 : Int) <= (((5 * s_mix) + (((s_bytes.getD (Int.toNat (s_used % (s_bytes.length : Int))) 0).toNat : Int) + ((11 * s_mix) + (s_used / (s_bytes.length : Int))))) + 1)) && decide ((((5 * s_mix) + (((s_bytes.getD (Int.toNat (s_used % (s_bytes.length : Int))) 0).toNat : Int) + ((11 * s_mix) + (s_used / (s_bytes.length : Int))))) + 1) <= (9223372036854775807 : Int))) <|
  M.grd (decide ((0 : Int) <= (((5 * s_mix) + (((s_bytes.getD (Int.toNat (s_used % (s_bytes.length : Int))) 0).toNat : Int) + ((11 * s_mix) + (s_used / (s_bytes.length : Int))))) + 1)) && decide ((0 : Int) < 251)) <|
  M.grd (decide ((-9223372036854775808 : Int) <= (s_used + 1)) && decide ((s_used + 1) <= (9223372036854775807 : Int))) <|
  bif decide (256 < n) then (
  M.grd (decide ((-9223372036854775808 : Int) <= (256 * (((s_bytes.getD (Int.toNat (s_used % (s_bytes.length : Int))) 0).toNat : Int) + ((11 * s_mix) + (s_used / (s_bytes.length : Int)))))) && decide ((256 * (((s_bytes.getD (Int.toNat (s_used % (s_bytes.length : Int))) 0).toNat : Int) + ((11 * s_mix) + (s_used / (s_bytes.length : Int))))) <= (9223372036854775807 : Int))) <|
  M.grd (decide ((-9223372036854775808 : Int) <= ((256 * (((s_bytes.getD (Int.toNat (s_used % (s_bytes.length : Int))) 0).toNat : Int) + ((11 * s_mix) + (s_used / (s_bytes.length : Int))))) + ((((5 * s_mix) + (((s_bytes.getD (Int.toNat (s_used % (s_bytes.length : Int))) 0).toNat : Int) + ((11 * s_mix) + (s_used / (s_bytes.length : Int))))) + 1) % 251))) && decide (((256 * (((s_bytes.getD (Int.toNat (s_used % (s_bytes.length : Int))) 0).toNat : Int) + ((11 * s_mix) + (s_used / (s_bytes.length : Int))))) + ((((5 * s_mix) + (((s_bytes.getD (Int.toNat (s_used % (s_bytes.length : Int))) 0).toNat : Int) + ((11 * s_mix) + (s_used / (s_bytes.length : Int))))) + 1) % 251)) <= (9223372036854775807 : Int))) <|
  M.grd (decide ((0 : Int) <= ((256 * (((s_bytes.getD (Int.toNat (s_used % (s_bytes.length : Int))) 0).toNat : Int) + ((11 * s_mix) + (s_used / (s_bytes.length : Int))))) + ((((5 * s_mix) + (((s_bytes.getD (Int.toNat (s_used % (s_bytes.length : Int))) 0).toNat : Int) + ((11 * s_mix) + (s_used / (s_bytes.length : Int))))) + 1) % 251))) && decide ((0 : Int) < n)) <|
  M.pure ((((256 * (((s_bytes.getD (Int.toNat (s_used % (s_bytes.length : Int))) 0).toNat : Int) + ((11 * s_mix) + (s_used / (s_bytes.length : Int))))) + ((((5 * s_mix) + (((s_bytes.getD (Int.toNat (s_used % (s_bytes.length : Int))) 0).toNat : Int) + ((11 * s_mix) + (s_used / (s_bytes.length : Int))))) + 1) % 251)) % n), (s_used + 1), ((((5 * s_mix) + (((s_bytes.getD (Int.toNat (s_used % (s_bytes.length : Int))) 0).toNat : Int) + ((11 * s_mix) + (s_used / (s_bytes.length : Int))))) + 1) % 251)))
  else (
  M.grd (decide ((0 : Int) <= (((s_bytes.getD (Int.toNat (s_used % (s_bytes.length : Int))) 0).toNat : Int) + ((11 * s_mix) + (s_used / (s_bytes.length : Int))))) && decide ((0 : Int) < n)) <|
  M.pure (((((s_bytes.getD (Int.toNat (s_used % (s_bytes.length : Int))) 0).toNat : Int) + ((11 * s_mix) + (s_used / (s_bytes.length : Int)))) % n), (s_used + 1), ((((5 * s_mix) + (((s_bytes.getD (Int.toNat (s_used % (s_bytes.length : Int))) 0).toNat : Int) + ((11 * s_mix) + (s_used / (s_bytes.length : Int))))) + 1) % 251))))
  else (
  M.grd (decide ((-9223372036854775808 : Int) <= (5 * s_mix)) && decide ((5 * s_mix) <= (9223372036854775807 : Int))) <|
  M.grd (decide ((-9223372036854775808 : Int) <= ((5 * s_mix) + ((s_bytes.getD (Int.toNat (s_used % (s_bytes.length : Int))) 0).toNat : Int))) && decide (((5 * s_mix) + ((s_bytes.getD (Int.toNat (s_used % (s_bytes.length : Int))) 0).toNat : Int)) <= (9223372036854775807 : Int))) <|
  M.grd (decide ((-9223372036854775808 : Int) <= (((5 * s_mix) + ((s_bytes.getD (Int.toNat (s_used % (s_bytes.length : Int))) 0).toNat : Int)) + 1)) && decide ((((5 * s_mix) + ((s_bytes.getD (Int.toNat (s_used % (s_bytes.length : Int))) 0).toNat : Int)) + 1) <= (9223372036854775807 : Int))) <|
  M.grd (decide ((0 : Int) <= (((5 * s_mix) + ((s_bytes.getD (Int.toNat (s_used % (s_bytes.length : Int))) 0).toNat : Int)) + 1)) && decide ((0 : Int) < 251)) <|
  M.grd (decide ((-9223372036854775808 : Int) <= (s_used + 1)) && decide ((s_used + 1) <= (9223372036854775807 : Int))) <|
  bif decide (256 < n) then (
  M.grd (decide ((-9223372036854775808 : Int) <= (256 * ((s_bytes.getD (Int.toNat (s_used % (s_bytes.length : Int))) 0).toNat : Int))) && decide ((256 * ((s_bytes.getD (Int.toNat (s_used % (s_bytes.length : Int))) 0).toNat : Int)) <= (9223372036854775807 : Int))) <|
  M.grd (decide ((-9223372036854775808 : Int) <= ((256 * ((s_bytes.getD (Int.toNat (s_used % (s_bytes.length : Int))) 0).toNat : Int)) + ((((5 * s_mix) + ((s_bytes.getD (Int.toNat (s_used % (s_bytes.length : Int))) 0).toNat : Int)) + 1) % 251))) && decide (((256 * ((s_bytes.getD (Int.toNat (s_used % (s_bytes.length : Int))) 0).toNat : Int)) + ((((5 * s_mix) + ((s_bytes.getD (Int.toNat (s_used % (s_bytes.length : Int))) 0).toNat : Int)) + 1) % 251)) <= (9223372036854775807 : Int))) <|
  M.grd (decide ((0 : Int) <= ((256 * ((s_bytes.getD (Int.toNat (s_used % (s_bytes.length : Int))) 0).toNat : Int)) + ((((5 * s_mix) + ((s_bytes.getD (Int.toNat (s_used % (s_bytes.length : Int))) 0).toNat : Int)) + 1) % 251))) && decide ((0 : Int) < n)) <|
  M.pure ((((256 * ((s_bytes.getD (Int.toNat (s_used % (s_bytes.length : Int))) 0).toNat : Int)) + ((((5 * s_mix) + ((s_bytes.getD (Int.toNat (s_used % (s_bytes.length : Int))) 0).toNat : Int)) + 1) % 251)) % n), (s_used + 1), ((((5 * s_mix) + ((s_bytes.getD (Int.toNat (s_used % (s_bytes.length : Int))) 0).toNat : Int)) + 1) % 251)))
  else (
  M.grd (decide ((0 : Int) <= ((s_bytes.getD (Int.toNat (s_used % (s_bytes.length : Int))) 0).toNat : Int)) && decide ((0 : Int) < n)) <|
  M.pure ((((s_bytes.getD (Int.toNat (s_used % (s_bytes.length : Int))) 0).toNat : Int) % n), (s_used + 1), ((((5 * s_mix) + ((s_bytes.getD (Int.toNat (s_used % (s_bytes.length : Int))) 0).toNat : Int)) + 1) % 251)))))
theorem zaa {R : List Chunk} {b_s : Nat} {C_s_bytes : Cells} {v_s_bytes : Value} (s_bytes : List UInt8) (s_used : Int) (s_mix : Int) (n : Int) (hC_s_bytes : Reads R C_s_bytes) (hs_s_bytes : Sl C_s_bytes v_s_bytes s_bytes) {r : (Int × Int × Int)} (hM : (zad s_bytes s_used s_mix n).Ends r) (w : World) (H : St w w [cBlk b_s [v_s_bytes, I s_used, I s_mix] 101] R) : Ret Try.prog 14 #[.pointer (some ⟨b_s, 0, none⟩), I n] w fun v w' => ∃ (y0 : Int) (y1 : Int) (y2 : Int), (y0, y1, y2) = r /\ v = I y0 /\ St w w' [cBlk b_s [v_s_bytes, I y1, I y2] 101] R := by
 refine ret_of_W Try.func14 rfl rfl rfl ?_
 refine W.seq ?_
 refine W.region rfl ?_
 refine s_val (x_as (v := I 0) rfl) ?_
 refine s_nil ?_
 refine W.seq ?_
 refine W.seq ?_
 refine W.region rfl ?_
 refine s_val (x_mv (v := I n) rfl) ?_
 refine s_val (x_cmp (kd := .i64) (a := n) (b := 2) (r := decide (n < 2)) rfl rfl rfl) ?_
 refine s_val (x_mv (v := B (decide (n < 2))) rfl) ?_
 refine g_val (!(decide (n < 2))) (gy_f rfl) (fun hg => x_mv (v := .pointer (some ⟨b_s, 0, none⟩)) rfl) ?_
 refine g_val (!(decide (n < 2))) (gy_f rfl) (fun hg => x_nc (a := ⟨b_s, 0, none⟩) (gd_of (c := !(decide (n < 2))) hg (.pointer (some ⟨b_s, 0, none⟩)))) ?_
 refine g_val (!(decide (n < 2))) (gy_f rfl) (fun hg => x_fa (a := .pointer (some ⟨b_s, 0, none⟩)) (v := .pointer (some ⟨b_s, 0, none⟩)) (gd_of (c := !(decide (n < 2))) hg (.pointer (some ⟨b_s, 0, none⟩))) (fa_blk (o := 0) Fd101_0 Sz22)) ?_
 refine g_val (!(decide (n < 2))) (gy_f rfl) (fun hg => x_ld (p := .pointer (some ⟨b_s, 0, none⟩)) (v := v_s_bytes) (gd_of (c := !(decide (n < 2))) hg (.pointer (some ⟨b_s, 0, none⟩))) (ldb_sc Sc22 (H.blk (k := 0) rfl) rfl)) ?_
 refine g_val (!(decide (n < 2))) (gy_f rfl) (fun hg => x_lenS T22.und (gd_of (c := !(decide (n < 2))) hg (v_s_bytes)) hs_s_bytes) ?_
 refine g_val (!(decide (n < 2))) (gy_f rfl) (fun hg => x_cmp (kd := .i64) (a := (s_bytes.length : Int)) (b := 0) (r := (s_bytes.length : Int) == 0) (gd_of (c := !(decide (n < 2))) hg (I (s_bytes.length : Int))) rfl rfl) ?_
 refine s_val (x_por (b := decide (n < 2)) (r := (s_bytes.length : Int) == 0) rfl rfl (fun hb => gd_of (c := !(decide (n < 2))) (by first | exact hb | (rw [hb]; rfl) | simp_all) (B ((s_bytes.length : Int) == 0)))) ?_
 refine s_nil ?_
 refine W.cond ((decide (n < 2)) || ((s_bytes.length : Int) == 0)) rfl (fun c2z => ?_) (fun c2z => ?_)
 ·replace hM := M.e_t hM c2z
  refine W.seq ?_
  refine W.region rfl ?_
  refine s_val (x_as (v := I 0) rfl) ?_
  refine s_nil ?_
  refine W.ret ?_
  have hr_ := M.e_pure hM
  exact ⟨_, resE_tmp rfl, ⟨0, s_used, s_mix, hr_, rfl, H⟩⟩
 replace hM := M.e_f hM c2z
 refine W.skip ?_
 refine W.seq ?_
 refine W.draw (fun W => St w W [cBlk b_s [v_s_bytes, I s_used, I s_mix] 101] R) [(0, true), (1, true), (2, true), (3, true), (4, true), (5, true), (6, true), (7, true), (8, true), (9, true), (10, true), (11, true), (12, true), (13, true), (14, true), (15, true), (16, true), (17, true)] mixed (by decide +kernel) rfl ?_
 intro w3z hx_
 replace H : St w w3z [cBlk b_s [v_s_bytes, I s_used, I s_mix] 101] R := H.ext hx_
 clear hx_
 refine ⟨(H.pick [0] (by decide) rfl), ?_⟩
 refine d_q rfl (fun w' H => x_mv (v := .pointer (some ⟨b_s, 0, none⟩)) rfl) ?_
 refine d_q rfl (fun w' H => x_nc (a := ⟨b_s, 0, none⟩) rfl) ?_
 refine d_q rfl (fun w' H => x_fa (a := .pointer (some ⟨b_s, 0, none⟩)) (v := .pointer (some ⟨b_s, 0, none⟩)) rfl (fa_blk (o := 0) Fd101_0 Sz22)) ?_
 refine d_q rfl (fun w' H => x_ld (p := .pointer (some ⟨b_s, 0, none⟩)) (v := v_s_bytes) rfl (ldb_sc Sc22 (H.blk (k := 0) rfl) rfl)) ?_
 refine d_q rfl (fun w' H => x_mv (v := .pointer (some ⟨b_s, 0, none⟩)) rfl) ?_
 refine d_q rfl (fun w' H => x_nc (a := ⟨b_s, 0, none⟩) rfl) ?_
 refine d_q rfl (fun w' H => x_fa (a := .pointer (some ⟨b_s, 0, none⟩)) (v := .pointer (some ⟨b_s, 1, none⟩)) rfl (fa_blk (o := 0) Fd101_1 Sz3)) ?_
 refine d_q rfl (fun w' H => x_ld (p := .pointer (some ⟨b_s, 1, none⟩)) (v := I s_used) rfl (ldb_sc Sc3 (H.blk (k := 0) rfl) rfl)) ?_
 refine d_q rfl (fun w' H => x_mv (v := .pointer (some ⟨b_s, 0, none⟩)) rfl) ?_
 refine d_q rfl (fun w' H => x_nc (a := ⟨b_s, 0, none⟩) rfl) ?_
 refine d_q rfl (fun w' H => x_fa (a := .pointer (some ⟨b_s, 0, none⟩)) (v := .pointer (some ⟨b_s, 0, none⟩)) rfl (fa_blk (o := 0) Fd101_0 Sz22)) ?_
 refine d_q rfl (fun w' H => x_ld (p := .pointer (some ⟨b_s, 0, none⟩)) (v := v_s_bytes) rfl (ldb_sc Sc22 (H.blk (k := 0) rfl) rfl)) ?_
 have hl4z := (hs_s_bytes).len_le
 refine d_q rfl (fun w' H => x_lenS T22.und rfl hs_s_bytes) ?_
 obtain ⟨sd5z, hM⟩ := M.e_grd hM
 simp only [Bool.and_eq_true, decide_eq_true_eq] at sd5z
 refine d_q rfl (fun w' H => x_rem' (a := s_used) (b := (s_bytes.length : Int)) rfl rfl (by omega)) ?_
 obtain ⟨sd6z, hM⟩ := M.e_grd hM
 simp only [Bool.and_eq_true, decide_eq_true_eq] at sd6z
 refine d_q rfl (fun w' H => x_ix (a := v_s_bytes) (b := I (s_used % (s_bytes.length : Int))) (v := vat v_s_bytes 1 (Int.toNat (s_used % (s_bytes.length : Int)))) rfl rfl (Sl.ix (α := UInt8) T22.und T22.size hs_s_bytes (by omega) (by omega))) ?_
 refine d_q rfl (fun w' H => x_ld (p := vat v_s_bytes 1 (Int.toNat (s_used % (s_bytes.length : Int)))) (v := .int .u8 (((s_bytes.getD (Int.toNat (s_used % (s_bytes.length : Int))) 0).toNat : Int))) rfl (ld_sc Sc5 (At.mono (UInt8_at hs_s_bytes (i := s_used % (s_bytes.length : Int)) (by omega) (by omega)) (hC_s_bytes.at H)))) ?_
 obtain ⟨sd7z, hM⟩ := M.e_grd hM
 simp only [Bool.and_eq_true, decide_eq_true_eq] at sd7z
 refine d_q rfl (fun w' H => x_conv64 (kd := .u8) (a := ((s_bytes.getD (Int.toNat (s_used % (s_bytes.length : Int))) 0).toNat : Int)) Try.underlying5 Try.underlying3 rfl (by omega)) ?_
 refine d_q rfl (fun w' H => x_as (v := I ((s_bytes.getD (Int.toNat (s_used % (s_bytes.length : Int))) 0).toNat : Int)) rfl) ?_
 refine d_nil ?_
 refine W.seq ?_
 refine W.seq ?_
 refine W.draw (fun W => St w W [cBlk b_s [v_s_bytes, I s_used, I s_mix] 101] R) [(0, true), (1, true), (2, true), (3, true), (4, true), (5, true), (6, true), (7, true), (8, true), (9, true)] mixed (by decide +kernel) rfl ?_
 intro w8z hx_
 replace H : St w w8z [cBlk b_s [v_s_bytes, I s_used, I s_mix] 101] R := H.ext hx_
 clear hx_
 refine ⟨(H.pick [0] (by decide) rfl), ?_⟩
 refine d_q rfl (fun w' H => x_mv (v := .pointer (some ⟨b_s, 0, none⟩)) rfl) ?_
 refine d_q rfl (fun w' H => x_nc (a := ⟨b_s, 0, none⟩) rfl) ?_
 refine d_q rfl (fun w' H => x_fa (a := .pointer (some ⟨b_s, 0, none⟩)) (v := .pointer (some ⟨b_s, 1, none⟩)) rfl (fa_blk (o := 0) Fd101_1 Sz3)) ?_
 refine d_q rfl (fun w' H => x_ld (p := .pointer (some ⟨b_s, 1, none⟩)) (v := I s_used) rfl (ldb_sc Sc3 (H.blk (k := 0) rfl) rfl)) ?_
 refine d_q rfl (fun w' H => x_mv (v := .pointer (some ⟨b_s, 0, none⟩)) rfl) ?_
 refine d_q rfl (fun w' H => x_nc (a := ⟨b_s, 0, none⟩) rfl) ?_
 refine d_q rfl (fun w' H => x_fa (a := .pointer (some ⟨b_s, 0, none⟩)) (v := .pointer (some ⟨b_s, 0, none⟩)) rfl (fa_blk (o := 0) Fd101_0 Sz22)) ?_
 refine d_q rfl (fun w' H => x_ld (p := .pointer (some ⟨b_s, 0, none⟩)) (v := v_s_bytes) rfl (ldb_sc Sc22 (H.blk (k := 0) rfl) rfl)) ?_
 have hl9z := (hs_s_bytes).len_le
 refine d_q rfl (fun w' H => x_lenS T22.und rfl hs_s_bytes) ?_
 refine d_q rfl (fun w' H => x_cmp (kd := .i64) (a := s_used) (b := (s_bytes.length : Int)) (r := decide ((s_bytes.length : Int) <= s_used)) rfl rfl rfl) ?_
 refine d_nil ?_
 refine W.cond (decide ((s_bytes.length : Int) <= s_used)) rfl (fun c10z => ?_) (fun c10z => ?_)
 ·replace hM := M.e_t hM c10z
  simp only [decide_eq_true_eq, decide_eq_false_iff_not, beq_iff_eq, bne_iff_ne, beq_eq_false_iff_ne, bne_eq_false_iff_eq, ne_eq, Decidable.not_not] at c10z
  refine W.draw (fun W => St w W [cBlk b_s [v_s_bytes, I s_used, I s_mix] 101] R) [(0, true), (1, true), (2, true), (3, true), (4, true), (5, true), (6, true), (7, true), (8, true), (9, true), (10, true), (11, true), (12, true), (13, true), (14, true), (15, true), (16, true), (17, true), (18, true)] mixed (by decide +kernel) rfl ?_
  intro w11z hx_
  replace H : St w w11z [cBlk b_s [v_s_bytes, I s_used, I s_mix] 101] R := H.ext hx_
  clear hx_
  refine ⟨(H.pick [0] (by decide) rfl), ?_⟩
  refine d_q rfl (fun w' H => x_mv (v := I ((s_bytes.getD (Int.toNat (s_used % (s_bytes.length : Int))) 0).toNat : Int)) rfl) ?_
  refine d_q rfl (fun w' H => x_mv (v := .pointer (some ⟨b_s, 0, none⟩)) rfl) ?_
  refine d_q rfl (fun w' H => x_nc (a := ⟨b_s, 0, none⟩) rfl) ?_
  refine d_q rfl (fun w' H => x_fa (a := .pointer (some ⟨b_s, 0, none⟩)) (v := .pointer (some ⟨b_s, 2, none⟩)) rfl (fa_blk (o := 0) Fd101_2 Sz3)) ?_
  refine d_q rfl (fun w' H => x_ld (p := .pointer (some ⟨b_s, 2, none⟩)) (v := I s_mix) rfl (ldb_sc Sc3 (H.blk (k := 0) rfl) rfl)) ?_
  obtain ⟨sd12z, hM⟩ := M.e_grd hM
  simp only [Bool.and_eq_true, decide_eq_true_eq] at sd12z
  refine d_q rfl (fun w' H => x_ari (a := 11) (b := s_mix) (r := 11 * s_mix) rfl rfl rfl (by omega)) ?_
  refine d_q rfl (fun w' H => x_mv (v := .pointer (some ⟨b_s, 0, none⟩)) rfl) ?_
  refine d_q rfl (fun w' H => x_nc (a := ⟨b_s, 0, none⟩) rfl) ?_
  refine d_q rfl (fun w' H => x_fa (a := .pointer (some ⟨b_s, 0, none⟩)) (v := .pointer (some ⟨b_s, 1, none⟩)) rfl (fa_blk (o := 0) Fd101_1 Sz3)) ?_
  refine d_q rfl (fun w' H => x_ld (p := .pointer (some ⟨b_s, 1, none⟩)) (v := I s_used) rfl (ldb_sc Sc3 (H.blk (k := 0) rfl) rfl)) ?_
  refine d_q rfl (fun w' H => x_mv (v := .pointer (some ⟨b_s, 0, none⟩)) rfl) ?_
  refine d_q rfl (fun w' H => x_nc (a := ⟨b_s, 0, none⟩) rfl) ?_
  refine d_q rfl (fun w' H => x_fa (a := .pointer (some ⟨b_s, 0, none⟩)) (v := .pointer (some ⟨b_s, 0, none⟩)) rfl (fa_blk (o := 0) Fd101_0 Sz22)) ?_
  refine d_q rfl (fun w' H => x_ld (p := .pointer (some ⟨b_s, 0, none⟩)) (v := v_s_bytes) rfl (ldb_sc Sc22 (H.blk (k := 0) rfl) rfl)) ?_
  have hl13z := (hs_s_bytes).len_le
  refine d_q rfl (fun w' H => x_lenS T22.und rfl hs_s_bytes) ?_
  obtain ⟨sd14z, hM⟩ := M.e_grd hM
  simp only [Bool.and_eq_true, decide_eq_true_eq] at sd14z
  refine d_q rfl (fun w' H => x_quo (a := s_used) (b := (s_bytes.length : Int)) rfl rfl (by omega)) ?_
  obtain ⟨sd15z, hM⟩ := M.e_grd hM
  simp only [Bool.and_eq_true, decide_eq_true_eq] at sd15z
  refine d_q rfl (fun w' H => x_ari (a := 11 * s_mix) (b := s_used / (s_bytes.length : Int)) (r := (11 * s_mix) + (s_used / (s_bytes.length : Int))) rfl rfl rfl (by omega)) ?_
  obtain ⟨sd16z, hM⟩ := M.e_grd hM
  simp only [Bool.and_eq_true, decide_eq_true_eq] at sd16z
  refine d_q rfl (fun w' H => x_ari (a := ((s_bytes.getD (Int.toNat (s_used % (s_bytes.length : Int))) 0).toNat : Int)) (b := (11 * s_mix) + (s_used / (s_bytes.length : Int))) (r := ((s_bytes.getD (Int.toNat (s_used % (s_bytes.length : Int))) 0).toNat : Int) + ((11 * s_mix) + (s_used / (s_bytes.length : Int)))) rfl rfl rfl (by omega)) ?_
  refine d_q rfl (fun w' H => x_as (v := I (((s_bytes.getD (Int.toNat (s_used % (s_bytes.length : Int))) 0).toNat : Int) + ((11 * s_mix) + (s_used / (s_bytes.length : Int))))) rfl) ?_
  refine d_nil ?_
  refine W.seq ?_
  refine W.region rfl ?_
  refine s_val (x_mv (v := .pointer (some ⟨b_s, 0, none⟩)) rfl) ?_
  refine s_val (x_mv (v := .pointer (some ⟨b_s, 0, none⟩)) rfl) ?_
  refine s_val (x_nc (a := ⟨b_s, 0, none⟩) rfl) ?_
  refine s_val (x_fa (a := .pointer (some ⟨b_s, 0, none⟩)) (v := .pointer (some ⟨b_s, 2, none⟩)) rfl (fa_blk (o := 0) Fd101_2 Sz3)) ?_
  refine s_val (x_ld (p := .pointer (some ⟨b_s, 2, none⟩)) (v := I s_mix) rfl (ldb_sc Sc3 (H.blk (k := 0) rfl) rfl)) ?_
  obtain ⟨sd17z, hM⟩ := M.e_grd hM
  simp only [Bool.and_eq_true, decide_eq_true_eq] at sd17z
  refine s_val (x_ari (a := 5) (b := s_mix) (r := 5 * s_mix) rfl rfl rfl (by omega)) ?_
  refine s_val (x_mv (v := I (((s_bytes.getD (Int.toNat (s_used % (s_bytes.length : Int))) 0).toNat : Int) + ((11 * s_mix) + (s_used / (s_bytes.length : Int))))) rfl) ?_
  obtain ⟨sd18z, hM⟩ := M.e_grd hM
  simp only [Bool.and_eq_true, decide_eq_true_eq] at sd18z
  refine s_val (x_ari (a := 5 * s_mix) (b := ((s_bytes.getD (Int.toNat (s_used % (s_bytes.length : Int))) 0).toNat : Int) + ((11 * s_mix) + (s_used / (s_bytes.length : Int)))) (r := (5 * s_mix) + (((s_bytes.getD (Int.toNat (s_used % (s_bytes.length : Int))) 0).toNat : Int) + ((11 * s_mix) + (s_used / (s_bytes.length : Int))))) rfl rfl rfl (by omega)) ?_
  obtain ⟨sd19z, hM⟩ := M.e_grd hM
  simp only [Bool.and_eq_true, decide_eq_true_eq] at sd19z
  refine s_val (x_ari (a := (5 * s_mix) + (((s_bytes.getD (Int.toNat (s_used % (s_bytes.length : Int))) 0).toNat : Int) + ((11 * s_mix) + (s_used / (s_bytes.length : Int))))) (b := 1) (r := ((5 * s_mix) + (((s_bytes.getD (Int.toNat (s_used % (s_bytes.length : Int))) 0).toNat : Int) + ((11 * s_mix) + (s_used / (s_bytes.length : Int))))) + 1) rfl rfl rfl (by omega)) ?_
  obtain ⟨sd20z, hM⟩ := M.e_grd hM
  simp only [Bool.and_eq_true, decide_eq_true_eq] at sd20z
  refine s_val (x_rem' (a := ((5 * s_mix) + (((s_bytes.getD (Int.toNat (s_used % (s_bytes.length : Int))) 0).toNat : Int) + ((11 * s_mix) + (s_used / (s_bytes.length : Int))))) + 1) (b := 251) rfl rfl (by omega)) ?_
  refine s_val (x_nc (a := ⟨b_s, 0, none⟩) rfl) ?_
  refine s_val (x_fa (a := .pointer (some ⟨b_s, 0, none⟩)) (v := .pointer (some ⟨b_s, 2, none⟩)) rfl (fa_blk (o := 0) Fd101_2 Sz3)) ?_
  refine t_st (k := 0) (b := b_s) (off := 2) (cs := [v_s_bytes, I s_used, I s_mix]) (vs := [I ((((5 * s_mix) + (((s_bytes.getD (Int.toNat (s_used % (s_bytes.length : Int))) 0).toNat : Int) + ((11 * s_mix) + (s_used / (s_bytes.length : Int))))) + 1) % 251)]) (cs' := [v_s_bytes, I s_used, I ((((5 * s_mix) + (((s_bytes.getD (Int.toNat (s_used % (s_bytes.length : Int))) 0).toNat : Int) + ((11 * s_mix) + (s_used / (s_bytes.length : Int))))) + 1) % 251)]) (v := I ((((5 * s_mix) + (((s_bytes.getD (Int.toNat (s_used % (s_bytes.length : Int))) 0).toNat : Int) + ((11 * s_mix) + (s_used / (s_bytes.length : Int))))) + 1) % 251)) (L' := [cBlk b_s [v_s_bytes, I s_used, I ((((5 * s_mix) + (((s_bytes.getD (Int.toNat (s_used % (s_bytes.length : Int))) 0).toNat : Int) + ((11 * s_mix) + (s_used / (s_bytes.length : Int))))) + 1) % 251)] 101]) H rfl rfl rfl Sz3 rfl rfl rfl rfl rfl rfl ?_
  intro w21z H
  refine s_nil ?_
  refine W.seq ?_
  refine W.region rfl ?_
  refine s_val (x_mv (v := .pointer (some ⟨b_s, 0, none⟩)) rfl) ?_
  refine s_val (x_nc (a := ⟨b_s, 0, none⟩) rfl) ?_
  refine s_val (x_fa (a := .pointer (some ⟨b_s, 0, none⟩)) (v := .pointer (some ⟨b_s, 1, none⟩)) rfl (fa_blk (o := 0) Fd101_1 Sz3)) ?_
  refine s_val (x_ld (p := .pointer (some ⟨b_s, 1, none⟩)) (v := I s_used) rfl (ldb_sc Sc3 (H.blk (k := 0) rfl) rfl)) ?_
  obtain ⟨sd22z, hM⟩ := M.e_grd hM
  simp only [Bool.and_eq_true, decide_eq_true_eq] at sd22z
  refine s_val (x_ari (a := s_used) (b := 1) (r := s_used + 1) rfl rfl rfl (by omega)) ?_
  refine s_val (x_nc (a := ⟨b_s, 0, none⟩) rfl) ?_
  refine s_val (x_fa (a := .pointer (some ⟨b_s, 0, none⟩)) (v := .pointer (some ⟨b_s, 1, none⟩)) rfl (fa_blk (o := 0) Fd101_1 Sz3)) ?_
  refine t_st (k := 0) (b := b_s) (off := 1) (cs := [v_s_bytes, I s_used, I ((((5 * s_mix) + (((s_bytes.getD (Int.toNat (s_used % (s_bytes.length : Int))) 0).toNat : Int) + ((11 * s_mix) + (s_used / (s_bytes.length : Int))))) + 1) % 251)]) (vs := [I (s_used + 1)]) (cs' := [v_s_bytes, I (s_used + 1), I ((((5 * s_mix) + (((s_bytes.getD (Int.toNat (s_used % (s_bytes.length : Int))) 0).toNat : Int) + ((11 * s_mix) + (s_used / (s_bytes.length : Int))))) + 1) % 251)]) (v := I (s_used + 1)) (L' := [cBlk b_s [v_s_bytes, I (s_used + 1), I ((((5 * s_mix) + (((s_bytes.getD (Int.toNat (s_used % (s_bytes.length : Int))) 0).toNat : Int) + ((11 * s_mix) + (s_used / (s_bytes.length : Int))))) + 1) % 251)] 101]) H rfl rfl rfl Sz3 rfl rfl rfl rfl rfl rfl ?_
  intro w23z H
  refine s_nil ?_
  refine W.seq ?_
  refine W.seq ?_
  refine W.region rfl ?_
  refine s_val (x_mv (v := I n) rfl) ?_
  refine s_val (x_cmp (kd := .i64) (a := n) (b := 256) (r := decide (256 < n)) rfl rfl rfl) ?_
  refine s_nil ?_
  refine W.cond (decide (256 < n)) rfl (fun c24z => ?_) (fun c24z => ?_)
  ·replace hM := M.e_t hM c24z
   simp only [decide_eq_true_eq, decide_eq_false_iff_not, beq_iff_eq, bne_iff_ne, beq_eq_false_iff_ne, bne_eq_false_iff_eq, ne_eq, Decidable.not_not] at c24z
   refine W.region rfl ?_
   refine s_val (x_mv (v := I (((s_bytes.getD (Int.toNat (s_used % (s_bytes.length : Int))) 0).toNat : Int) + ((11 * s_mix) + (s_used / (s_bytes.length : Int))))) rfl) ?_
   obtain ⟨sd25z, hM⟩ := M.e_grd hM
   simp only [Bool.and_eq_true, decide_eq_true_eq] at sd25z
   refine s_val (x_ari (a := 256) (b := ((s_bytes.getD (Int.toNat (s_used % (s_bytes.length : Int))) 0).toNat : Int) + ((11 * s_mix) + (s_used / (s_bytes.length : Int)))) (r := 256 * (((s_bytes.getD (Int.toNat (s_used % (s_bytes.length : Int))) 0).toNat : Int) + ((11 * s_mix) + (s_used / (s_bytes.length : Int))))) rfl rfl rfl (by omega)) ?_
   refine s_val (x_mv (v := .pointer (some ⟨b_s, 0, none⟩)) rfl) ?_
   refine s_val (x_nc (a := ⟨b_s, 0, none⟩) rfl) ?_
   refine s_val (x_fa (a := .pointer (some ⟨b_s, 0, none⟩)) (v := .pointer (some ⟨b_s, 2, none⟩)) rfl (fa_blk (o := 0) Fd101_2 Sz3)) ?_
   refine s_val (x_ld (p := .pointer (some ⟨b_s, 2, none⟩)) (v := I ((((5 * s_mix) + (((s_bytes.getD (Int.toNat (s_used % (s_bytes.length : Int))) 0).toNat : Int) + ((11 * s_mix) + (s_used / (s_bytes.length : Int))))) + 1) % 251)) rfl (ldb_sc Sc3 (H.blk (k := 0) rfl) rfl)) ?_
   obtain ⟨sd26z, hM⟩ := M.e_grd hM
   simp only [Bool.and_eq_true, decide_eq_true_eq] at sd26z
   refine s_val (x_ari (a := 256 * (((s_bytes.getD (Int.toNat (s_used % (s_bytes.length : Int))) 0).toNat : Int) + ((11 * s_mix) + (s_used / (s_bytes.length : Int))))) (b := (((5 * s_mix) + (((s_bytes.getD (Int.toNat (s_used % (s_bytes.length : Int))) 0).toNat : Int) + ((11 * s_mix) + (s_used / (s_bytes.length : Int))))) + 1) % 251) (r := (256 * (((s_bytes.getD (Int.toNat (s_used % (s_bytes.length : Int))) 0).toNat : Int) + ((11 * s_mix) + (s_used / (s_bytes.length : Int))))) + ((((5 * s_mix) + (((s_bytes.getD (Int.toNat (s_used % (s_bytes.length : Int))) 0).toNat : Int) + ((11 * s_mix) + (s_used / (s_bytes.length : Int))))) + 1) % 251)) rfl rfl rfl (by omega)) ?_
   refine s_val (x_as (v := I ((256 * (((s_bytes.getD (Int.toNat (s_used % (s_bytes.length : Int))) 0).toNat : Int) + ((11 * s_mix) + (s_used / (s_bytes.length : Int))))) + ((((5 * s_mix) + (((s_bytes.getD (Int.toNat (s_used % (s_bytes.length : Int))) 0).toNat : Int) + ((11 * s_mix) + (s_used / (s_bytes.length : Int))))) + 1) % 251))) rfl) ?_
   refine s_nil ?_
   refine W.seq ?_
   refine W.region rfl ?_
   refine s_val (x_mv (v := I ((256 * (((s_bytes.getD (Int.toNat (s_used % (s_bytes.length : Int))) 0).toNat : Int) + ((11 * s_mix) + (s_used / (s_bytes.length : Int))))) + ((((5 * s_mix) + (((s_bytes.getD (Int.toNat (s_used % (s_bytes.length : Int))) 0).toNat : Int) + ((11 * s_mix) + (s_used / (s_bytes.length : Int))))) + 1) % 251))) rfl) ?_
   refine s_val (x_mv (v := I n) rfl) ?_
   obtain ⟨sd27z, hM⟩ := M.e_grd hM
   simp only [Bool.and_eq_true, decide_eq_true_eq] at sd27z
   refine s_val (x_rem' (a := (256 * (((s_bytes.getD (Int.toNat (s_used % (s_bytes.length : Int))) 0).toNat : Int) + ((11 * s_mix) + (s_used / (s_bytes.length : Int))))) + ((((5 * s_mix) + (((s_bytes.getD (Int.toNat (s_used % (s_bytes.length : Int))) 0).toNat : Int) + ((11 * s_mix) + (s_used / (s_bytes.length : Int))))) + 1) % 251)) (b := n) rfl rfl (by omega)) ?_
   refine s_val (x_as (v := I (((256 * (((s_bytes.getD (Int.toNat (s_used % (s_bytes.length : Int))) 0).toNat : Int) + ((11 * s_mix) + (s_used / (s_bytes.length : Int))))) + ((((5 * s_mix) + (((s_bytes.getD (Int.toNat (s_used % (s_bytes.length : Int))) 0).toNat : Int) + ((11 * s_mix) + (s_used / (s_bytes.length : Int))))) + 1) % 251)) % n)) rfl) ?_
   refine s_nil ?_
   refine W.ret ?_
   have hr_ := M.e_pure hM
   exact ⟨_, resE_tmp rfl, ⟨(((256 * (((s_bytes.getD (Int.toNat (s_used % (s_bytes.length : Int))) 0).toNat : Int) + ((11 * s_mix) + (s_used / (s_bytes.length : Int))))) + ((((5 * s_mix) + (((s_bytes.getD (Int.toNat (s_used % (s_bytes.length : Int))) 0).toNat : Int) + ((11 * s_mix) + (s_used / (s_bytes.length : Int))))) + 1) % 251)) % n), (s_used + 1), ((((5 * s_mix) + (((s_bytes.getD (Int.toNat (s_used % (s_bytes.length : Int))) 0).toNat : Int) + ((11 * s_mix) + (s_used / (s_bytes.length : Int))))) + 1) % 251), hr_, rfl, H⟩⟩
  replace hM := M.e_f hM c24z
  simp only [decide_eq_true_eq, decide_eq_false_iff_not, beq_iff_eq, bne_iff_ne, beq_eq_false_iff_ne, bne_eq_false_iff_eq, ne_eq, Decidable.not_not] at c24z
  refine W.skip ?_
  refine W.seq ?_
  refine W.region rfl ?_
  refine s_val (x_mv (v := I (((s_bytes.getD (Int.toNat (s_used % (s_bytes.length : Int))) 0).toNat : Int) + ((11 * s_mix) + (s_used / (s_bytes.length : Int))))) rfl) ?_
  refine s_val (x_mv (v := I n) rfl) ?_
  obtain ⟨sd28z, hM⟩ := M.e_grd hM
  simp only [Bool.and_eq_true, decide_eq_true_eq] at sd28z
  refine s_val (x_rem' (a := ((s_bytes.getD (Int.toNat (s_used % (s_bytes.length : Int))) 0).toNat : Int) + ((11 * s_mix) + (s_used / (s_bytes.length : Int)))) (b := n) rfl rfl (by omega)) ?_
  refine s_val (x_as (v := I ((((s_bytes.getD (Int.toNat (s_used % (s_bytes.length : Int))) 0).toNat : Int) + ((11 * s_mix) + (s_used / (s_bytes.length : Int)))) % n)) rfl) ?_
  refine s_nil ?_
  refine W.ret ?_
  have hr_ := M.e_pure hM
  exact ⟨_, resE_tmp rfl, ⟨((((s_bytes.getD (Int.toNat (s_used % (s_bytes.length : Int))) 0).toNat : Int) + ((11 * s_mix) + (s_used / (s_bytes.length : Int)))) % n), (s_used + 1), ((((5 * s_mix) + (((s_bytes.getD (Int.toNat (s_used % (s_bytes.length : Int))) 0).toNat : Int) + ((11 * s_mix) + (s_used / (s_bytes.length : Int))))) + 1) % 251), hr_, rfl, H⟩⟩
 replace hM := M.e_f hM c10z
 simp only [decide_eq_true_eq, decide_eq_false_iff_not, beq_iff_eq, bne_iff_ne, beq_eq_false_iff_ne, bne_eq_false_iff_eq, ne_eq, Decidable.not_not] at c10z
 refine W.skip ?_
 refine W.seq ?_
 refine W.region rfl ?_
 refine s_val (x_mv (v := .pointer (some ⟨b_s, 0, none⟩)) rfl) ?_
 refine s_val (x_mv (v := .pointer (some ⟨b_s, 0, none⟩)) rfl) ?_
 refine s_val (x_nc (a := ⟨b_s, 0, none⟩) rfl) ?_
 refine s_val (x_fa (a := .pointer (some ⟨b_s, 0, none⟩)) (v := .pointer (some ⟨b_s, 2, none⟩)) rfl (fa_blk (o := 0) Fd101_2 Sz3)) ?_
 refine s_val (x_ld (p := .pointer (some ⟨b_s, 2, none⟩)) (v := I s_mix) rfl (ldb_sc Sc3 (H.blk (k := 0) rfl) rfl)) ?_
 obtain ⟨sd29z, hM⟩ := M.e_grd hM
 simp only [Bool.and_eq_true, decide_eq_true_eq] at sd29z
 refine s_val (x_ari (a := 5) (b := s_mix) (r := 5 * s_mix) rfl rfl rfl (by omega)) ?_
 refine s_val (x_mv (v := I ((s_bytes.getD (Int.toNat (s_used % (s_bytes.length : Int))) 0).toNat : Int)) rfl) ?_
 obtain ⟨sd30z, hM⟩ := M.e_grd hM
 simp only [Bool.and_eq_true, decide_eq_true_eq] at sd30z
 refine s_val (x_ari (a := 5 * s_mix) (b := ((s_bytes.getD (Int.toNat (s_used % (s_bytes.length : Int))) 0).toNat : Int)) (r := (5 * s_mix) + ((s_bytes.getD (Int.toNat (s_used % (s_bytes.length : Int))) 0).toNat : Int)) rfl rfl rfl (by omega)) ?_
 obtain ⟨sd31z, hM⟩ := M.e_grd hM
 simp only [Bool.and_eq_true, decide_eq_true_eq] at sd31z
 refine s_val (x_ari (a := (5 * s_mix) + ((s_bytes.getD (Int.toNat (s_used % (s_bytes.length : Int))) 0).toNat : Int)) (b := 1) (r := ((5 * s_mix) + ((s_bytes.getD (Int.toNat (s_used % (s_bytes.length : Int))) 0).toNat : Int)) + 1) rfl rfl rfl (by omega)) ?_
 obtain ⟨sd32z, hM⟩ := M.e_grd hM
 simp only [Bool.and_eq_true, decide_eq_true_eq] at sd32z
 refine s_val (x_rem' (a := ((5 * s_mix) + ((s_bytes.getD (Int.toNat (s_used % (s_bytes.length : Int))) 0).toNat : Int)) + 1) (b := 251) rfl rfl (by omega)) ?_
 refine s_val (x_nc (a := ⟨b_s, 0, none⟩) rfl) ?_
 refine s_val (x_fa (a := .pointer (some ⟨b_s, 0, none⟩)) (v := .pointer (some ⟨b_s, 2, none⟩)) rfl (fa_blk (o := 0) Fd101_2 Sz3)) ?_
 refine t_st (k := 0) (b := b_s) (off := 2) (cs := [v_s_bytes, I s_used, I s_mix]) (vs := [I ((((5 * s_mix) + ((s_bytes.getD (Int.toNat (s_used % (s_bytes.length : Int))) 0).toNat : Int)) + 1) % 251)]) (cs' := [v_s_bytes, I s_used, I ((((5 * s_mix) + ((s_bytes.getD (Int.toNat (s_used % (s_bytes.length : Int))) 0).toNat : Int)) + 1) % 251)]) (v := I ((((5 * s_mix) + ((s_bytes.getD (Int.toNat (s_used % (s_bytes.length : Int))) 0).toNat : Int)) + 1) % 251)) (L' := [cBlk b_s [v_s_bytes, I s_used, I ((((5 * s_mix) + ((s_bytes.getD (Int.toNat (s_used % (s_bytes.length : Int))) 0).toNat : Int)) + 1) % 251)] 101]) H rfl rfl rfl Sz3 rfl rfl rfl rfl rfl rfl ?_
 intro w33z H
 refine s_nil ?_
 refine W.seq ?_
 refine W.region rfl ?_
 refine s_val (x_mv (v := .pointer (some ⟨b_s, 0, none⟩)) rfl) ?_
 refine s_val (x_nc (a := ⟨b_s, 0, none⟩) rfl) ?_
 refine s_val (x_fa (a := .pointer (some ⟨b_s, 0, none⟩)) (v := .pointer (some ⟨b_s, 1, none⟩)) rfl (fa_blk (o := 0) Fd101_1 Sz3)) ?_
 refine s_val (x_ld (p := .pointer (some ⟨b_s, 1, none⟩)) (v := I s_used) rfl (ldb_sc Sc3 (H.blk (k := 0) rfl) rfl)) ?_
 obtain ⟨sd34z, hM⟩ := M.e_grd hM
 simp only [Bool.and_eq_true, decide_eq_true_eq] at sd34z
 refine s_val (x_ari (a := s_used) (b := 1) (r := s_used + 1) rfl rfl rfl (by omega)) ?_
 refine s_val (x_nc (a := ⟨b_s, 0, none⟩) rfl) ?_
 refine s_val (x_fa (a := .pointer (some ⟨b_s, 0, none⟩)) (v := .pointer (some ⟨b_s, 1, none⟩)) rfl (fa_blk (o := 0) Fd101_1 Sz3)) ?_
 refine t_st (k := 0) (b := b_s) (off := 1) (cs := [v_s_bytes, I s_used, I ((((5 * s_mix) + ((s_bytes.getD (Int.toNat (s_used % (s_bytes.length : Int))) 0).toNat : Int)) + 1) % 251)]) (vs := [I (s_used + 1)]) (cs' := [v_s_bytes, I (s_used + 1), I ((((5 * s_mix) + ((s_bytes.getD (Int.toNat (s_used % (s_bytes.length : Int))) 0).toNat : Int)) + 1) % 251)]) (v := I (s_used + 1)) (L' := [cBlk b_s [v_s_bytes, I (s_used + 1), I ((((5 * s_mix) + ((s_bytes.getD (Int.toNat (s_used % (s_bytes.length : Int))) 0).toNat : Int)) + 1) % 251)] 101]) H rfl rfl rfl Sz3 rfl rfl rfl rfl rfl rfl ?_
 intro w35z H
 refine s_nil ?_
 refine W.seq ?_
 refine W.seq ?_
 refine W.region rfl ?_
 refine s_val (x_mv (v := I n) rfl) ?_
 refine s_val (x_cmp (kd := .i64) (a := n) (b := 256) (r := decide (256 < n)) rfl rfl rfl) ?_
 refine s_nil ?_
 refine W.cond (decide (256 < n)) rfl (fun c36z => ?_) (fun c36z => ?_)
 ·replace hM := M.e_t hM c36z
  simp only [decide_eq_true_eq, decide_eq_false_iff_not, beq_iff_eq, bne_iff_ne, beq_eq_false_iff_ne, bne_eq_false_iff_eq, ne_eq, Decidable.not_not] at c36z
  refine W.region rfl ?_
  refine s_val (x_mv (v := I ((s_bytes.getD (Int.toNat (s_used % (s_bytes.length : Int))) 0).toNat : Int)) rfl) ?_
  obtain ⟨sd37z, hM⟩ := M.e_grd hM
  simp only [Bool.and_eq_true, decide_eq_true_eq] at sd37z
  refine s_val (x_ari (a := 256) (b := ((s_bytes.getD (Int.toNat (s_used % (s_bytes.length : Int))) 0).toNat : Int)) (r := 256 * ((s_bytes.getD (Int.toNat (s_used % (s_bytes.length : Int))) 0).toNat : Int)) rfl rfl rfl (by omega)) ?_
  refine s_val (x_mv (v := .pointer (some ⟨b_s, 0, none⟩)) rfl) ?_
  refine s_val (x_nc (a := ⟨b_s, 0, none⟩) rfl) ?_
  refine s_val (x_fa (a := .pointer (some ⟨b_s, 0, none⟩)) (v := .pointer (some ⟨b_s, 2, none⟩)) rfl (fa_blk (o := 0) Fd101_2 Sz3)) ?_
  refine s_val (x_ld (p := .pointer (some ⟨b_s, 2, none⟩)) (v := I ((((5 * s_mix) + ((s_bytes.getD (Int.toNat (s_used % (s_bytes.length : Int))) 0).toNat : Int)) + 1) % 251)) rfl (ldb_sc Sc3 (H.blk (k := 0) rfl) rfl)) ?_
  obtain ⟨sd38z, hM⟩ := M.e_grd hM
  simp only [Bool.and_eq_true, decide_eq_true_eq] at sd38z
  refine s_val (x_ari (a := 256 * ((s_bytes.getD (Int.toNat (s_used % (s_bytes.length : Int))) 0).toNat : Int)) (b := (((5 * s_mix) + ((s_bytes.getD (Int.toNat (s_used % (s_bytes.length : Int))) 0).toNat : Int)) + 1) % 251) (r := (256 * ((s_bytes.getD (Int.toNat (s_used % (s_bytes.length : Int))) 0).toNat : Int)) + ((((5 * s_mix) + ((s_bytes.getD (Int.toNat (s_used % (s_bytes.length : Int))) 0).toNat : Int)) + 1) % 251)) rfl rfl rfl (by omega)) ?_
  refine s_val (x_as (v := I ((256 * ((s_bytes.getD (Int.toNat (s_used % (s_bytes.length : Int))) 0).toNat : Int)) + ((((5 * s_mix) + ((s_bytes.getD (Int.toNat (s_used % (s_bytes.length : Int))) 0).toNat : Int)) + 1) % 251))) rfl) ?_
  refine s_nil ?_
  refine W.seq ?_
  refine W.region rfl ?_
  refine s_val (x_mv (v := I ((256 * ((s_bytes.getD (Int.toNat (s_used % (s_bytes.length : Int))) 0).toNat : Int)) + ((((5 * s_mix) + ((s_bytes.getD (Int.toNat (s_used % (s_bytes.length : Int))) 0).toNat : Int)) + 1) % 251))) rfl) ?_
  refine s_val (x_mv (v := I n) rfl) ?_
  obtain ⟨sd39z, hM⟩ := M.e_grd hM
  simp only [Bool.and_eq_true, decide_eq_true_eq] at sd39z
  refine s_val (x_rem' (a := (256 * ((s_bytes.getD (Int.toNat (s_used % (s_bytes.length : Int))) 0).toNat : Int)) + ((((5 * s_mix) + ((s_bytes.getD (Int.toNat (s_used % (s_bytes.length : Int))) 0).toNat : Int)) + 1) % 251)) (b := n) rfl rfl (by omega)) ?_
  refine s_val (x_as (v := I (((256 * ((s_bytes.getD (Int.toNat (s_used % (s_bytes.length : Int))) 0).toNat : Int)) + ((((5 * s_mix) + ((s_bytes.getD (Int.toNat (s_used % (s_bytes.length : Int))) 0).toNat : Int)) + 1) % 251)) % n)) rfl) ?_
  refine s_nil ?_
  refine W.ret ?_
  have hr_ := M.e_pure hM
  exact ⟨_, resE_tmp rfl, ⟨(((256 * ((s_bytes.getD (Int.toNat (s_used % (s_bytes.length : Int))) 0).toNat : Int)) + ((((5 * s_mix) + ((s_bytes.getD (Int.toNat (s_used % (s_bytes.length : Int))) 0).toNat : Int)) + 1) % 251)) % n), (s_used + 1), ((((5 * s_mix) + ((s_bytes.getD (Int.toNat (s_used % (s_bytes.length : Int))) 0).toNat : Int)) + 1) % 251), hr_, rfl, H⟩⟩
 replace hM := M.e_f hM c36z
 simp only [decide_eq_true_eq, decide_eq_false_iff_not, beq_iff_eq, bne_iff_ne, beq_eq_false_iff_ne, bne_eq_false_iff_eq, ne_eq, Decidable.not_not] at c36z
 refine W.skip ?_
 refine W.seq ?_
 refine W.region rfl ?_
 refine s_val (x_mv (v := I ((s_bytes.getD (Int.toNat (s_used % (s_bytes.length : Int))) 0).toNat : Int)) rfl) ?_
 refine s_val (x_mv (v := I n) rfl) ?_
 obtain ⟨sd40z, hM⟩ := M.e_grd hM
 simp only [Bool.and_eq_true, decide_eq_true_eq] at sd40z
 refine s_val (x_rem' (a := ((s_bytes.getD (Int.toNat (s_used % (s_bytes.length : Int))) 0).toNat : Int)) (b := n) rfl rfl (by omega)) ?_
 refine s_val (x_as (v := I (((s_bytes.getD (Int.toNat (s_used % (s_bytes.length : Int))) 0).toNat : Int) % n)) rfl) ?_
 refine s_nil ?_
 refine W.ret ?_
 have hr_ := M.e_pure hM
 exact ⟨_, resE_tmp rfl, ⟨(((s_bytes.getD (Int.toNat (s_used % (s_bytes.length : Int))) 0).toNat : Int) % n), (s_used + 1), ((((5 * s_mix) + ((s_bytes.getD (Int.toNat (s_used % (s_bytes.length : Int))) 0).toNat : Int)) + 1) % 251), hr_, rfl, H⟩⟩

def zap (s_bytes : List UInt8) (s_used : Int) (s_mix : Int) (lo : Int) (hi : Int) : M (Int × Int × Int) :=
  M.grd (decide ((-9223372036854775808 : Int) <= (hi - lo)) && decide ((hi - lo) <= (9223372036854775807 : Int))) <|
  M.grd (decide ((-9223372036854775808 : Int) <= ((hi - lo) + 1)) && decide (((hi - lo) + 1) <= (9223372036854775807 : Int))) <|
  M.bind (zad s_bytes s_used s_mix ((hi - lo) + 1)) fun (r2, q1, q2) =>
  M.grd (decide ((-9223372036854775808 : Int) <= (lo + r2)) && decide ((lo + r2) <= (9223372036854775807 : Int))) <|
  M.pure ((lo + r2), q1, q2)
theorem zbr {R : List Chunk} {b_s : Nat} {C_s_bytes : Cells} {v_s_bytes : Value} (s_bytes : List UInt8) (s_used : Int) (s_mix : Int) (lo : Int) (hi : Int) (hC_s_bytes : Reads R C_s_bytes) (hs_s_bytes : Sl C_s_bytes v_s_bytes s_bytes) {r : (Int × Int × Int)} (hM : (zap s_bytes s_used s_mix lo hi).Ends r) (w : World) (H : St w w [cBlk b_s [v_s_bytes, I s_used, I s_mix] 101] R) : Ret Try.prog 44 #[.pointer (some ⟨b_s, 0, none⟩), I lo, I hi] w fun v w' => ∃ (y0 : Int) (y1 : Int) (y2 : Int), (y0, y1, y2) = r /\ v = I y0 /\ St w w' [cBlk b_s [v_s_bytes, I y1, I y2] 101] R := by
 refine ret_of_W Try.func44 rfl rfl rfl ?_
 refine W.seq ?_
 refine W.region rfl ?_
 refine s_val (x_as (v := I 0) rfl) ?_
 refine s_nil ?_
 refine W.seq ?_
 refine W.region rfl ?_
 refine s_val (x_mv (v := I lo) rfl) ?_
 refine s_val (x_mv (v := .pointer (some ⟨b_s, 0, none⟩)) rfl) ?_
 refine s_val (x_mv (v := I hi) rfl) ?_
 refine s_val (x_mv (v := I lo) rfl) ?_
 obtain ⟨sd1z, hM⟩ := M.e_grd hM
 simp only [Bool.and_eq_true, decide_eq_true_eq] at sd1z
 refine s_val (x_ari (a := hi) (b := lo) (r := hi - lo) rfl rfl rfl (by omega)) ?_
 obtain ⟨sd2z, hM⟩ := M.e_grd hM
 simp only [Bool.and_eq_true, decide_eq_true_eq] at sd2z
 refine s_val (x_ari (a := hi - lo) (b := 1) (r := (hi - lo) + 1) rfl rfl rfl (by omega)) ?_
 obtain ⟨r4z, hx3z, hM⟩ := M.e_bind hM
 refine s_call cf14 [.pointer (some ⟨b_s, 0, none⟩), I ((hi - lo) + 1)] rfl (zaa s_bytes s_used s_mix ((hi - lo) + 1) (hC_s_bytes.app _) hs_s_bytes hx3z _ (St.give (T := []) H rfl)) ?_
 rintro vq w5z ⟨r2, q1, q2, hr6z, hvq, H2_⟩
 subst hr6z
 subst vq
 try dsimp only at hM
 replace H : St w w5z [cBlk b_s [v_s_bytes, I q1, I q2] 101] R := H.back H2_ rfl
 clear H2_
 obtain ⟨sd7z, hM⟩ := M.e_grd hM
 simp only [Bool.and_eq_true, decide_eq_true_eq] at sd7z
 refine s_val (x_ari (a := lo) (b := r2) (r := lo + r2) rfl rfl rfl (by omega)) ?_
 refine s_val (x_as (v := I (lo + r2)) rfl) ?_
 refine s_nil ?_
 refine W.ret ?_
 have hr_ := M.e_pure hM
 exact ⟨_, resE_tmp rfl, ⟨(lo + r2), q1, q2, hr_, rfl, H⟩⟩

def zav (b_First : Int) (t : List Int) (r4 : Int) (s2 : Int) : (Int × (List Int)) -> M ((Int × (List Int)) ⊕ ((List Int) × (List Int))) := fun (year, l) =>
  bif decide (year <= r4) then (
  M.grd (decide ((-9223372036854775808 : Int) <= (year - b_First)) && decide ((year - b_First) <= (9223372036854775807 : Int))) <|
  M.grd (decide ((0 : Int) <= (year - b_First)) && decide ((year - b_First) < (t.length : Int))) <|
  bif decide (s2 <= (t.getD (Int.toNat (year - b_First)) 0)) then (
  M.grd (decide ((l.length + ([(year : Int)]).length) * 8 <= 140737488355328)) <|
  M.grd (decide ((-9223372036854775808 : Int) <= (year + 1)) && decide ((year + 1) <= (9223372036854775807 : Int))) <|
  M.pure (.inl (year + 1, l ++ ([(year : Int)]))))
  else (
  M.grd (decide ((-9223372036854775808 : Int) <= (year + 1)) && decide ((year + 1) <= (9223372036854775807 : Int))) <|
  M.pure (.inl (year + 1, l))))
  else (
  M.pure (.inr (l, l)))
def zba (b_First : Int) (t : List Int) (r2 : Int) (r4 : Int) : (Int × Bool × (List Int)) -> M ((Int × Bool × (List Int)) ⊕ (Int × (List Int) × (List Int))) := fun (s2, again, l4) =>
  bif again then (
  M.bind (M.iter (zav b_First t r4 s2) (r2, [])) fun (l2, l3) =>
  bif decide (10 < (l3.length : Int)) then (
  M.grd (decide ((-9223372036854775808 : Int) <= (s2 + 100)) && decide ((s2 + 100) <= (9223372036854775807 : Int))) <|
  M.pure (.inl (min 2000 (s2 + 100), true, l3)))
  else (
  M.pure (.inl (s2, false, l3))))
  else (
  M.pure (.inr (s2, l4, l4)))
def za7 (s_bytes : List UInt8) (s_used : Int) (s_mix : Int) (b_Years : List Yr) (b_Olds : List Old10) (b_First : Int) (b_Last : Int) (t : List Int) : M (Int × Int × Int × (List Int) × Int × Int) :=
  M.bind (zap s_bytes s_used s_mix b_First b_Last) fun (r2, q1, q2) =>
  M.bind (zap s_bytes q1 q2 1 700) fun (r3, q12, q22) =>
  M.bind (zap s_bytes q12 q22 r2 b_Last) fun (r4, q13, q23) =>
  M.bind (M.iter (zba b_First t r2 r4) (r3, true, [])) fun (s3, l5, l6) =>
  M.pure (r2, r4, s3, l6, q13, q23)
theorem zaw {R : List Chunk} {b_s : Nat} {C_s_bytes : Cells} {v_s_bytes : Value} {C_b_Years : Cells} {v_b_Years : Value} {C_b_Olds : Cells} {v_b_Olds : Value} {C_t : Cells} {v_t : Value} (s_bytes : List UInt8) (s_used : Int) (s_mix : Int) (b_Years : List Yr) (b_Olds : List Old10) (b_First : Int) (b_Last : Int) (t : List Int) (hC_s_bytes : Reads R C_s_bytes) (hs_s_bytes : Sl C_s_bytes v_s_bytes s_bytes) (hC_b_Years : Reads R C_b_Years) (hs_b_Years : Sl C_b_Years v_b_Years b_Years) (hC_b_Olds : Reads R C_b_Olds) (hs_b_Olds : Sl C_b_Olds v_b_Olds b_Olds) (hC_t : Reads R C_t) (hs_t : Sl C_t v_t t) {r : (Int × Int × Int × (List Int) × Int × Int)} (hM : (za7 s_bytes s_used s_mix b_Years b_Olds b_First b_Last t).Ends r) (w : World) (H : St w w [cBlk b_s [v_s_bytes, I s_used, I s_mix] 101] R) : Ret Try.prog 19 #[.pointer (some ⟨b_s, 0, none⟩), .agg #[v_b_Years, v_b_Olds, I b_First, I b_Last], v_t] w fun v w' => ∃ (y0 : Int) (y1 : Int) (y2 : Int) (y3 : List Int) (y4 : Int) (y5 : Int) (u0 : Value), (y0, y1, y2, y3, y4, y5) = r /\ v = .agg #[I y0, I y1, I y2, u0] /\ St w w' [cOwn (α := Int) 3 u0 y3, cBlk b_s [v_s_bytes, I y4, I y5] 101] R := by
 refine ret_of_W Try.func19 rfl rfl rfl ?_
 refine W.seq ?_
 refine W.region rfl ?_
 refine t_box (v := .agg #[v_b_Years, v_b_Olds, I b_First, I b_Last]) (cs := [v_b_Years, v_b_Olds, I b_First, I b_Last]) H rfl rfl ?_
 intro b_1 w1z H
 refine t_alloc (cs := [I 0, I 0, I 0, .slice none 0 0]) H Al43 rfl ?_
 intro b_2 w2z H
 refine s_nil ?_
 refine W.seq ?_
 refine W.region rfl ?_
 refine s_val (x_mv (v := .pointer (some ⟨b_s, 0, none⟩)) rfl) ?_
 refine s_val (x_fa (a := .pointer (some ⟨b_1, 0, none⟩)) (v := .pointer (some ⟨b_1, 2, none⟩)) rfl (fa_blk (o := 0) Fd26_2 Sz3)) ?_
 refine s_val (x_ld (p := .pointer (some ⟨b_1, 2, none⟩)) (v := I b_First) rfl (ldb_sc Sc3 (H.blk (k := 1) rfl) rfl)) ?_
 refine s_val (x_fa (a := .pointer (some ⟨b_1, 0, none⟩)) (v := .pointer (some ⟨b_1, 3, none⟩)) rfl (fa_blk (o := 0) Fd26_3 Sz3)) ?_
 refine s_val (x_ld (p := .pointer (some ⟨b_1, 3, none⟩)) (v := I b_Last) rfl (ldb_sc Sc3 (H.blk (k := 1) rfl) rfl)) ?_
 obtain ⟨r4z, hx3z, hM⟩ := M.e_bind hM
 refine s_call cf44 [.pointer (some ⟨b_s, 0, none⟩), I b_First, I b_Last] rfl (zbr s_bytes s_used s_mix b_First b_Last (hC_s_bytes.app _) hs_s_bytes hx3z _ (St.give (L := [cBlk b_s [v_s_bytes, I s_used, I s_mix] 101, cBlk b_2 [I 0, I 0, I 0, .slice none 0 0] 43, cBlk b_1 [v_b_Years, v_b_Olds, I b_First, I b_Last] 26]) (A := [cBlk b_s [v_s_bytes, I s_used, I s_mix] 101]) (T := [cBlk b_2 [I 0, I 0, I 0, .slice none 0 0] 43, cBlk b_1 [v_b_Years, v_b_Olds, I b_First, I b_Last] 26]) (H.pick [2, 0, 1] (by decide) rfl) rfl)) ?_
 rintro vq w5z ⟨r2, q1, q2, hr6z, hvq, H2_⟩
 subst hr6z
 subst vq
 try dsimp only at hM
 replace H : St w w5z [cBlk b_s [v_s_bytes, I q1, I q2] 101, cBlk b_2 [I 0, I 0, I 0, .slice none 0 0] 43, cBlk b_1 [v_b_Years, v_b_Olds, I b_First, I b_Last] 26] R := H.pick [2, 0, 1] (by decide) rfl |>.back H2_ rfl
 clear H2_
 refine s_val (x_mv (v := .pointer (some ⟨b_s, 0, none⟩)) rfl) ?_
 obtain ⟨r8z, hx7z, hM⟩ := M.e_bind hM
 refine s_call cf44 [.pointer (some ⟨b_s, 0, none⟩), I 1, I 700] rfl (zbr s_bytes q1 q2 1 700 (hC_s_bytes.app _) hs_s_bytes hx7z _ (St.give (T := [cBlk b_2 [I 0, I 0, I 0, .slice none 0 0] 43, cBlk b_1 [v_b_Years, v_b_Olds, I b_First, I b_Last] 26]) H rfl)) ?_
 rintro vq w9z ⟨r3, q12, q22, hr10z, hvq, H2_⟩
 subst hr10z
 subst vq
 try dsimp only at hM
 replace H : St w w9z [cBlk b_s [v_s_bytes, I q12, I q22] 101, cBlk b_2 [I 0, I 0, I 0, .slice none 0 0] 43, cBlk b_1 [v_b_Years, v_b_Olds, I b_First, I b_Last] 26] R := H.back H2_ rfl
 clear H2_
 refine s_val (x_bld (ps := [(0, I r2), (2, I r3)]) (zs := [I 0, I 0, I 0, .slice none 0 0]) (L' := [I r2, I 0, I r3, .slice none 0 0]) rfl Try.underlying43 Al43 rfl (Bd43 Try.underlying43) (.cons (cs := [I r2]) rfl rfl rfl rfl rfl <| .cons (cs := [I r3]) rfl rfl rfl rfl rfl <| .nil)) ?_
 refine t_alloc (cs := [I 0, I 0, I 0, .slice none 0 0]) H Al43 rfl ?_
 intro b_3 w11z H
 refine t_st (k := 0) (b := b_3) (off := 0) (cs := [I 0, I 0, I 0, .slice none 0 0]) (vs := [I r2, I 0, I r3, .slice none 0 0]) (cs' := [I r2, I 0, I r3, .slice none 0 0]) (v := .agg #[I r2, I 0, I r3, .slice none 0 0]) (L' := [cBlk b_3 [I r2, I 0, I r3, .slice none 0 0] 43, cBlk b_s [v_s_bytes, I q12, I q22] 101, cBlk b_2 [I 0, I 0, I 0, .slice none 0 0] 43, cBlk b_1 [v_b_Years, v_b_Olds, I b_First, I b_Last] 26]) H rfl rfl rfl Sz43 rfl rfl rfl rfl rfl rfl ?_
 intro w12z H
 refine s_nil ?_
 refine W.seq ?_
 refine W.region rfl ?_
 refine s_val (x_mv (v := .pointer (some ⟨b_s, 0, none⟩)) rfl) ?_
 refine s_val (x_fa (a := .pointer (some ⟨b_3, 0, none⟩)) (v := .pointer (some ⟨b_3, 0, none⟩)) rfl (fa_blk (o := 0) Fd43_0 Sz3)) ?_
 refine s_val (x_ld (p := .pointer (some ⟨b_3, 0, none⟩)) (v := I r2) rfl (ldb_sc Sc3 (H.blk (k := 0) rfl) rfl)) ?_
 refine s_val (x_fa (a := .pointer (some ⟨b_1, 0, none⟩)) (v := .pointer (some ⟨b_1, 3, none⟩)) rfl (fa_blk (o := 0) Fd26_3 Sz3)) ?_
 refine s_val (x_ld (p := .pointer (some ⟨b_1, 3, none⟩)) (v := I b_Last) rfl (ldb_sc Sc3 (H.blk (k := 3) rfl) rfl)) ?_
 obtain ⟨r14z, hx13z, hM⟩ := M.e_bind hM
 refine s_call cf44 [.pointer (some ⟨b_s, 0, none⟩), I r2, I b_Last] rfl (zbr s_bytes q12 q22 r2 b_Last (hC_s_bytes.app _) hs_s_bytes hx13z _ (St.give (L := [cBlk b_s [v_s_bytes, I q12, I q22] 101, cBlk b_3 [I r2, I 0, I r3, .slice none 0 0] 43, cBlk b_2 [I 0, I 0, I 0, .slice none 0 0] 43, cBlk b_1 [v_b_Years, v_b_Olds, I b_First, I b_Last] 26]) (A := [cBlk b_s [v_s_bytes, I q12, I q22] 101]) (T := [cBlk b_3 [I r2, I 0, I r3, .slice none 0 0] 43, cBlk b_2 [I 0, I 0, I 0, .slice none 0 0] 43, cBlk b_1 [v_b_Years, v_b_Olds, I b_First, I b_Last] 26]) (H.pick [1, 0, 2, 3] (by decide) rfl) rfl)) ?_
 rintro vq w15z ⟨r4, q13, q23, hr16z, hvq, H2_⟩
 subst hr16z
 subst vq
 try dsimp only at hM
 replace H : St w w15z [cBlk b_s [v_s_bytes, I q13, I q23] 101, cBlk b_3 [I r2, I 0, I r3, .slice none 0 0] 43, cBlk b_2 [I 0, I 0, I 0, .slice none 0 0] 43, cBlk b_1 [v_b_Years, v_b_Olds, I b_First, I b_Last] 26] R := H.pick [1, 0, 2, 3] (by decide) rfl |>.back H2_ rfl
 clear H2_
 refine s_val (x_fa (a := .pointer (some ⟨b_3, 0, none⟩)) (v := .pointer (some ⟨b_3, 1, none⟩)) rfl (fa_blk (o := 0) Fd43_1 Sz3)) ?_
 refine t_st (k := 1) (b := b_3) (off := 1) (cs := [I r2, I 0, I r3, .slice none 0 0]) (vs := [I r4]) (cs' := [I r2, I r4, I r3, .slice none 0 0]) (v := I r4) (L' := [cBlk b_s [v_s_bytes, I q13, I q23] 101, cBlk b_3 [I r2, I r4, I r3, .slice none 0 0] 43, cBlk b_2 [I 0, I 0, I 0, .slice none 0 0] 43, cBlk b_1 [v_b_Years, v_b_Olds, I b_First, I b_Last] 26]) H rfl rfl rfl Sz3 rfl rfl rfl rfl rfl rfl ?_
 intro w17z H
 refine s_nil ?_
 refine W.seq ?_
 refine W.seq ?_
 refine W.region rfl ?_
 refine s_val (x_as (v := B true) rfl) ?_
 refine s_nil ?_
 refine W.block ?_
 replace H : St w w17z [cOwn (α := Int) 3 (.slice none 0 0) ([]), cBlk b_s [v_s_bytes, I q13, I q23] 101, cBlk b_3 [I r2, I r4, I r3, .slice none 0 0] 43, cBlk b_2 [I 0, I 0, I 0, .slice none 0 0] 43, cBlk b_1 [v_b_Years, v_b_Olds, I b_First, I b_Last] 26] R := H.nilOwn (α := Int) 3
 obtain ⟨ex18z, hi19z, hk20z⟩ := M.e_bind hM
 obtain ⟨m0_, hi19z⟩ := M.e_iter hi19z
 refine W.loop (fun m σ W => ∃ (s2 : Int) (again : Bool) (l4 : List Int) (v_l4 : Value) (ρ : Env), σ = upds ρ [(2, v_t), (4, .pointer (some ⟨b_1, 0, none⟩)), (6, .pointer (some ⟨b_2, 0, none⟩)), (7, .pointer (some ⟨b_3, 0, none⟩)), (8, B again)] /\ M.iterN (zba b_First t r2 r4) m (s2, again, l4) = some ex18z /\ St w W [cOwn (α := Int) 3 v_l4 l4, cBlk b_s [v_s_bytes, I q13, I q23] 101, cBlk b_3 [I r2, I r4, I s2, v_l4] 43, cBlk b_2 [I 0, I 0, I 0, .slice none 0 0] 43, cBlk b_1 [v_b_Years, v_b_Olds, I b_First, I b_Last] 26] R) ?_ ?_
 ·exact ⟨_, r3, true, [], (.slice none 0 0), _, upds_of _ _ ⟨rfl, rfl, rfl, rfl, rfl, trivial⟩, hi19z, H⟩
 rintro m23z σ w21z ⟨s2, again, l4, v_l4, ρ, rfl, hI22z, H⟩
 obtain ⟨m24z, lt25z, x26z, hM, hN27z⟩ := M.e_iterN hI22z
 simp only [zba] at hM
 clear hI22z
 refine W.seq ?_
 refine W.seq ?_
 refine W.region rfl ?_
 refine s_val (x_mv (v := B again) rfl) ?_
 refine s_nil ?_
 refine W.cond again rfl (fun c28z => ?_) (fun c28z => ?_)
 ·replace hM := M.e_t hM c28z
  refine W.skip ?_
  refine W.block ?_
  refine W.seq ?_
  refine W.region rfl ?_
  refine s_val (x_as (v := B false) rfl) ?_
  refine s_nil ?_
  refine W.seq ?_
  refine W.region rfl ?_
  refine s_val (x_fa (a := .pointer (some ⟨b_3, 0, none⟩)) (v := .pointer (some ⟨b_3, 3, none⟩)) rfl (fa_blk (o := 0) Fd43_3 Sz27)) ?_
  refine t_st (k := 2) (b := b_3) (off := 3) (cs := [I r2, I r4, I s2, v_l4]) (vs := [.slice none 0 0]) (cs' := [I r2, I r4, I s2, .slice none 0 0]) (v := .slice none 0 0) (L' := [cOwn (α := Int) 3 v_l4 l4, cBlk b_s [v_s_bytes, I q13, I q23] 101, cBlk b_3 [I r2, I r4, I s2, .slice none 0 0] 43, cBlk b_2 [I 0, I 0, I 0, .slice none 0 0] 43, cBlk b_1 [v_b_Years, v_b_Olds, I b_First, I b_Last] 26]) H rfl rfl rfl Sz27 rfl rfl rfl rfl rfl rfl ?_
  intro w29z H
  refine s_nil ?_
  refine W.seq ?_
  refine W.seq ?_
  refine W.region rfl ?_
  refine s_val (x_fa (a := .pointer (some ⟨b_3, 0, none⟩)) (v := .pointer (some ⟨b_3, 0, none⟩)) rfl (fa_blk (o := 0) Fd43_0 Sz3)) ?_
  refine s_val (x_ld (p := .pointer (some ⟨b_3, 0, none⟩)) (v := I r2) rfl (ldb_sc Sc3 (H.blk (k := 2) rfl) rfl)) ?_
  refine s_val (x_as (v := I r2) rfl) ?_
  refine s_nil ?_
  refine W.block ?_
  replace H : St w w29z [cOwn (α := Int) 3 (.slice none 0 0) ([]), cOwn (α := Int) 3 v_l4 l4, cBlk b_s [v_s_bytes, I q13, I q23] 101, cBlk b_3 [I r2, I r4, I s2, .slice none 0 0] 43, cBlk b_2 [I 0, I 0, I 0, .slice none 0 0] 43, cBlk b_1 [v_b_Years, v_b_Olds, I b_First, I b_Last] 26] R := H.nilOwn (α := Int) 3
  obtain ⟨ex30z, hi31z, hk32z⟩ := M.e_bind hM
  obtain ⟨m0_, hi31z⟩ := M.e_iter hi31z
  refine W.loop (fun m σ W => ∃ (year : Int) (l : List Int) (v_l : Value) (ρ : Env), σ = upds ρ [(2, v_t), (4, .pointer (some ⟨b_1, 0, none⟩)), (6, .pointer (some ⟨b_2, 0, none⟩)), (7, .pointer (some ⟨b_3, 0, none⟩)), (8, B false), (9, I year)] /\ M.iterN (zav b_First t r4 s2) m (year, l) = some ex30z /\ St w W [cOwn (α := Int) 3 v_l l, cOwn (α := Int) 3 v_l4 l4, cBlk b_s [v_s_bytes, I q13, I q23] 101, cBlk b_3 [I r2, I r4, I s2, v_l] 43, cBlk b_2 [I 0, I 0, I 0, .slice none 0 0] 43, cBlk b_1 [v_b_Years, v_b_Olds, I b_First, I b_Last] 26] R) ?_ ?_
  ·exact ⟨_, r2, [], (.slice none 0 0), _, upds_of _ _ ⟨rfl, rfl, rfl, rfl, rfl, rfl, trivial⟩, hi31z, H⟩
  rintro m35z σ w33z ⟨year, l, v_l, ρ, rfl, hI34z, H⟩
  obtain ⟨m36z, lt37z, x38z, hM, hN39z⟩ := M.e_iterN hI34z
  simp only [zav] at hM
  clear hI34z
  refine W.seq ?_
  refine W.seq ?_
  refine W.region rfl ?_
  refine s_val (x_mv (v := I year) rfl) ?_
  refine s_val (x_fa (a := .pointer (some ⟨b_3, 0, none⟩)) (v := .pointer (some ⟨b_3, 1, none⟩)) rfl (fa_blk (o := 0) Fd43_1 Sz3)) ?_
  refine s_val (x_ld (p := .pointer (some ⟨b_3, 1, none⟩)) (v := I r4) rfl (ldb_sc Sc3 (H.blk (k := 3) rfl) rfl)) ?_
  refine s_val (x_cmp (kd := .i64) (a := year) (b := r4) (r := decide (year <= r4)) rfl rfl rfl) ?_
  refine s_nil ?_
  refine W.cond (decide (year <= r4)) rfl (fun c40z => ?_) (fun c40z => ?_)
  ·replace hM := M.e_t hM c40z
   simp only [decide_eq_true_eq, decide_eq_false_iff_not, beq_iff_eq, bne_iff_ne, beq_eq_false_iff_ne, bne_eq_false_iff_eq, ne_eq, Decidable.not_not] at c40z
   refine W.skip ?_
   refine W.seq ?_
   refine W.block ?_
   refine W.seq ?_
   refine W.draw (fun W => St w W [cOwn (α := Int) 3 v_l l, cOwn (α := Int) 3 v_l4 l4, cBlk b_s [v_s_bytes, I q13, I q23] 101, cBlk b_3 [I r2, I r4, I s2, v_l] 43, cBlk b_2 [I 0, I 0, I 0, .slice none 0 0] 43, cBlk b_1 [v_b_Years, v_b_Olds, I b_First, I b_Last] 26] R) [(0, true), (1, true), (2, true), (3, true), (4, true), (5, true), (6, true), (7, true), (8, true), (9, true)] mixed (by decide +kernel) rfl ?_
   intro w41z hx_
   replace H : St w w41z [cOwn (α := Int) 3 v_l l, cOwn (α := Int) 3 v_l4 l4, cBlk b_s [v_s_bytes, I q13, I q23] 101, cBlk b_3 [I r2, I r4, I s2, v_l] 43, cBlk b_2 [I 0, I 0, I 0, .slice none 0 0] 43, cBlk b_1 [v_b_Years, v_b_Olds, I b_First, I b_Last] 26] R := H.ext hx_
   clear hx_
   refine ⟨(H.pick [0, 1, 2, 3, 4, 5] (by decide) rfl), ?_⟩
   refine d_q rfl (fun w' H => x_mv (v := v_t) rfl) ?_
   refine d_q rfl (fun w' H => x_mv (v := I year) rfl) ?_
   refine d_q rfl (fun w' H => x_fa (a := .pointer (some ⟨b_1, 0, none⟩)) (v := .pointer (some ⟨b_1, 2, none⟩)) rfl (fa_blk (o := 0) Fd26_2 Sz3)) ?_
   refine d_q rfl (fun w' H => x_ld (p := .pointer (some ⟨b_1, 2, none⟩)) (v := I b_First) rfl (ldb_sc Sc3 (H.blk (k := 5) rfl) rfl)) ?_
   obtain ⟨sd42z, hM⟩ := M.e_grd hM
   simp only [Bool.and_eq_true, decide_eq_true_eq] at sd42z
   refine d_q rfl (fun w' H => x_ari (a := year) (b := b_First) (r := year - b_First) rfl rfl rfl (by omega)) ?_
   obtain ⟨sd43z, hM⟩ := M.e_grd hM
   simp only [Bool.and_eq_true, decide_eq_true_eq] at sd43z
   refine d_q rfl (fun w' H => x_ix (a := v_t) (b := I (year - b_First)) (v := vat v_t 1 (Int.toNat (year - b_First))) rfl rfl (Sl.ix (α := Int) T27.und T27.size hs_t (by omega) (by omega))) ?_
   refine d_q rfl (fun w' H => x_ld (p := vat v_t 1 (Int.toNat (year - b_First))) (v := I (t.getD (Int.toNat (year - b_First)) 0)) rfl (ld_sc Sc3 (At.mono (Int_at hs_t (i := year - b_First) (by omega) (by omega)) (hC_t.at H)))) ?_
   refine d_q rfl (fun w' H => x_fa (a := .pointer (some ⟨b_3, 0, none⟩)) (v := .pointer (some ⟨b_3, 2, none⟩)) rfl (fa_blk (o := 0) Fd43_2 Sz3)) ?_
   refine d_q rfl (fun w' H => x_ld (p := .pointer (some ⟨b_3, 2, none⟩)) (v := I s2) rfl (ldb_sc Sc3 (H.blk (k := 3) rfl) rfl)) ?_
   refine d_q rfl (fun w' H => x_cmp (kd := .i64) (a := t.getD (Int.toNat (year - b_First)) 0) (b := s2) (r := decide (s2 <= (t.getD (Int.toNat (year - b_First)) 0))) rfl rfl rfl) ?_
   refine d_nil ?_
   refine W.cond (decide (s2 <= (t.getD (Int.toNat (year - b_First)) 0))) rfl (fun c44z => ?_) (fun c44z => ?_)
   ·replace hM := M.e_t hM c44z
    simp only [decide_eq_true_eq, decide_eq_false_iff_not, beq_iff_eq, bne_iff_ne, beq_eq_false_iff_ne, bne_eq_false_iff_eq, ne_eq, Decidable.not_not] at c44z
    refine W.region rfl ?_
    refine s_val (x_fa (a := .pointer (some ⟨b_3, 0, none⟩)) (v := .pointer (some ⟨b_3, 3, none⟩)) rfl (fa_blk (o := 0) Fd43_3 Sz27)) ?_
    refine s_val (x_ld (p := .pointer (some ⟨b_3, 3, none⟩)) (v := v_l) rfl (ldb_sc Sc27 (H.blk (k := 3) rfl) rfl)) ?_
    refine s_val (x_mv (v := I year) rfl) ?_
    refine t_bs (α := Int) T27 [I year] [(year : Int)] H rfl (.cons rfl (Flat.rep_enc _ (year : Int)) <| .nil) rfl rfl rfl ?_
    intro v45z w46z H
    obtain ⟨sd47z, hM⟩ := M.e_grd hM
    simp only [Bool.and_eq_true, decide_eq_true_eq] at sd47z
    refine t_app (α := Int) (k := 1) (l := l) (l2 := [(year : Int)]) (l' := l ++ ([(year : Int)])) (vy := v45z) T27 rfl H rfl rfl rfl (ownSl (H.get (k := 0) rfl)) (ownLe _ (H.get (k := 0) rfl)) (rfl) (by first | omega | (simp only [List.length_nil] at *; omega)) ?_
    intro v48z w49z H
    replace H : St w w49z [cOwn (α := Int) 3 v45z ([(year : Int)]), cOwn (α := Int) 3 v48z (l ++ ([(year : Int)])), cOwn (α := Int) 3 v_l4 l4, cBlk b_s [v_s_bytes, I q13, I q23] 101, cBlk b_3 [I r2, I r4, I s2, v_l] 43, cBlk b_2 [I 0, I 0, I 0, .slice none 0 0] 43, cBlk b_1 [v_b_Years, v_b_Olds, I b_First, I b_Last] 26] R := H
    refine s_val (x_fa (a := .pointer (some ⟨b_3, 0, none⟩)) (v := .pointer (some ⟨b_3, 3, none⟩)) rfl (fa_blk (o := 0) Fd43_3 Sz27)) ?_
    refine t_st (k := 4) (b := b_3) (off := 3) (cs := [I r2, I r4, I s2, v_l]) (vs := [v48z]) (cs' := [I r2, I r4, I s2, v48z]) (v := v48z) (L' := [cOwn (α := Int) 3 v45z ([(year : Int)]), cOwn (α := Int) 3 v48z (l ++ ([(year : Int)])), cOwn (α := Int) 3 v_l4 l4, cBlk b_s [v_s_bytes, I q13, I q23] 101, cBlk b_3 [I r2, I r4, I s2, v48z] 43, cBlk b_2 [I 0, I 0, I 0, .slice none 0 0] 43, cBlk b_1 [v_b_Years, v_b_Olds, I b_First, I b_Last] 26]) H rfl rfl rfl Sz27 (Sl.cells (ownSl (H.get (k := 1) rfl))) rfl rfl (by simp only [List.all_cons, List.all_nil, Bool.true_and, Bool.and_true, Sl.oc (ownSl (H.get (k := 1) rfl))]; try rfl) rfl rfl ?_
    intro w50z H
    refine s_nil ?_
    refine W.region rfl ?_
    refine s_val (x_mv (v := I year) rfl) ?_
    obtain ⟨sd51z, hM⟩ := M.e_grd hM
    simp only [Bool.and_eq_true, decide_eq_true_eq] at sd51z
    refine s_val (x_ari (a := year) (b := 1) (r := year + 1) rfl rfl rfl (by omega)) ?_
    refine s_val (x_as (v := I (year + 1)) rfl) ?_
    refine s_nil ?_
    exact ⟨m36z, lt37z, year + 1, l ++ ([(year : Int)]), v48z, _, upds_of _ _ ⟨rfl, rfl, rfl, rfl, rfl, rfl, trivial⟩, M.e_inl hM hN39z, (H.pick [1, 2, 3, 4, 5, 6] (by decide) rfl)⟩
   replace hM := M.e_f hM c44z
   simp only [decide_eq_true_eq, decide_eq_false_iff_not, beq_iff_eq, bne_iff_ne, beq_eq_false_iff_ne, bne_eq_false_iff_eq, ne_eq, Decidable.not_not] at c44z
   refine W.skip ?_
   refine W.region rfl ?_
   refine s_val (x_mv (v := I year) rfl) ?_
   obtain ⟨sd52z, hM⟩ := M.e_grd hM
   simp only [Bool.and_eq_true, decide_eq_true_eq] at sd52z
   refine s_val (x_ari (a := year) (b := 1) (r := year + 1) rfl rfl rfl (by omega)) ?_
   refine s_val (x_as (v := I (year + 1)) rfl) ?_
   refine s_nil ?_
   exact ⟨m36z, lt37z, year + 1, l, v_l, _, upds_of _ _ ⟨rfl, rfl, rfl, rfl, rfl, rfl, trivial⟩, M.e_inl hM hN39z, H⟩
  replace hM := M.e_f hM c40z
  simp only [decide_eq_true_eq, decide_eq_false_iff_not, beq_iff_eq, bne_iff_ne, beq_eq_false_iff_ne, bne_eq_false_iff_eq, ne_eq, Decidable.not_not] at c40z
  refine W.exit ?_
  have hX53z := M.e_inr hM hN39z
  subst hX53z
  replace hM := hk32z
  try dsimp only at hM
  refine W.seq ?_
  refine W.region rfl ?_
  refine s_val (x_fa (a := .pointer (some ⟨b_3, 0, none⟩)) (v := .pointer (some ⟨b_3, 3, none⟩)) rfl (fa_blk (o := 0) Fd43_3 Sz27)) ?_
  refine s_val (x_ld (p := .pointer (some ⟨b_3, 3, none⟩)) (v := v_l) rfl (ldb_sc Sc27 (H.blk (k := 3) rfl) rfl)) ?_
  have hl54z := ((ownSl (H.get (k := 0) rfl))).len_le
  refine s_val (x_lenS T27.und rfl (ownSl (H.get (k := 0) rfl))) ?_
  refine s_val (x_cmp (kd := .i64) (a := (l.length : Int)) (b := 10) (r := decide (10 < (l.length : Int))) rfl rfl rfl) ?_
  refine s_nil ?_
  refine W.cond (decide (10 < (l.length : Int))) rfl (fun c55z => ?_) (fun c55z => ?_)
  ·replace hM := M.e_t hM c55z
   simp only [decide_eq_true_eq, decide_eq_false_iff_not, beq_iff_eq, bne_iff_ne, beq_eq_false_iff_ne, bne_eq_false_iff_eq, ne_eq, Decidable.not_not] at c55z
   refine W.seq ?_
   refine W.region rfl ?_
   refine s_val (x_fa (a := .pointer (some ⟨b_3, 0, none⟩)) (v := .pointer (some ⟨b_3, 2, none⟩)) rfl (fa_blk (o := 0) Fd43_2 Sz3)) ?_
   refine s_val (x_ld (p := .pointer (some ⟨b_3, 2, none⟩)) (v := I s2) rfl (ldb_sc Sc3 (H.blk (k := 3) rfl) rfl)) ?_
   obtain ⟨sd56z, hM⟩ := M.e_grd hM
   simp only [Bool.and_eq_true, decide_eq_true_eq] at sd56z
   refine s_val (x_ari (a := s2) (b := 100) (r := s2 + 100) rfl rfl rfl (by omega)) ?_
   refine s_val (x_min (kd := .i64) (a := 2000) (b := s2 + 100) rfl rfl) ?_
   refine s_val (x_fa (a := .pointer (some ⟨b_3, 0, none⟩)) (v := .pointer (some ⟨b_3, 2, none⟩)) rfl (fa_blk (o := 0) Fd43_2 Sz3)) ?_
   refine t_st (k := 3) (b := b_3) (off := 2) (cs := [I r2, I r4, I s2, v_l]) (vs := [I (min 2000 (s2 + 100))]) (cs' := [I r2, I r4, I (min 2000 (s2 + 100)), v_l]) (v := I (min 2000 (s2 + 100))) (L' := [cOwn (α := Int) 3 v_l l, cOwn (α := Int) 3 v_l4 l4, cBlk b_s [v_s_bytes, I q13, I q23] 101, cBlk b_3 [I r2, I r4, I (min 2000 (s2 + 100)), v_l] 43, cBlk b_2 [I 0, I 0, I 0, .slice none 0 0] 43, cBlk b_1 [v_b_Years, v_b_Olds, I b_First, I b_Last] 26]) H rfl rfl rfl Sz3 rfl rfl rfl rfl rfl rfl ?_
   intro w57z H
   refine s_nil ?_
   refine W.region rfl ?_
   refine s_val (x_as (v := B true) rfl) ?_
   refine s_nil ?_
   exact ⟨m24z, lt25z, min 2000 (s2 + 100), true, l, v_l, _, upds_of _ _ ⟨rfl, rfl, rfl, rfl, rfl, trivial⟩, M.e_inl hM hN27z, (H.pick [0, 2, 3, 4, 5] (by decide) rfl)⟩
  replace hM := M.e_f hM c55z
  simp only [decide_eq_true_eq, decide_eq_false_iff_not, beq_iff_eq, bne_iff_ne, beq_eq_false_iff_ne, bne_eq_false_iff_eq, ne_eq, Decidable.not_not] at c55z
  refine W.skip ?_
  exact ⟨m24z, lt25z, s2, false, l, v_l, _, upds_of _ _ ⟨rfl, rfl, rfl, rfl, rfl, trivial⟩, M.e_inl hM hN27z, (H.pick [0, 2, 3, 4, 5] (by decide) rfl)⟩
 replace hM := M.e_f hM c28z
 refine W.exit ?_
 have hX58z := M.e_inr hM hN27z
 subst hX58z
 replace hM := hk20z
 try dsimp only at hM
 refine W.seq ?_
 refine W.region rfl ?_
 refine s_val (x_ld (p := .pointer (some ⟨b_3, 0, none⟩)) (v := .agg #[I r2, I r4, I s2, v_l4]) rfl (ldb_ag (ds := [I r2, I r4, I s2, v_l4]) Ag43 Sz43 (H.blk (k := 2) rfl) rfl rfl)) ?_
 refine t_st (k := 3) (b := b_2) (off := 0) (cs := [I 0, I 0, I 0, .slice none 0 0]) (vs := [I r2, I r4, I s2, v_l4]) (cs' := [I r2, I r4, I s2, v_l4]) (v := .agg #[I r2, I r4, I s2, v_l4]) (L' := [cOwn (α := Int) 3 v_l4 l4, cBlk b_s [v_s_bytes, I q13, I q23] 101, cBlk b_3 [I r2, I r4, I s2, v_l4] 43, cBlk b_2 [I r2, I r4, I s2, v_l4] 43, cBlk b_1 [v_b_Years, v_b_Olds, I b_First, I b_Last] 26]) H rfl rfl rfl Sz43 rfl rfl rfl (by simp only [List.all_cons, List.all_nil, Bool.true_and, Bool.and_true, Sl.oc (ownSl (H.get (k := 0) rfl))]; try rfl) rfl rfl ?_
 intro w59z H
 refine s_nil ?_
 refine W.ret ?_
 have hb60z := (H.blk (k := 3) rfl)
 have hr_ := M.e_pure hM
 exact ⟨_, (resE_of1 (v := .agg #[I r2, I r4, I s2, v_l4]) rfl (.cell (v := .agg #[I r2, I r4, I s2, v_l4]) rfl (run_loadVar_ag (ds := [I r2, I r4, I s2, v_l4]) Ag43 Sz43 hb60z rfl rfl) <| .nil)), ⟨r2, r4, s2, l4, q13, q23, v_l4, hr_, rfl, (H.pick [0, 1] (by decide) rfl)⟩⟩

end Go.Proofs.Ytcgalcbkkijkhaa
end
