/- Part 6 of the texts on which the proof rests. Conditions: none. -/
import Derived.Test.YtcgalcbkkijkhaaZR5
set_option linter.unusedVariables false
set_option linter.unusedSimpArgs false
set_option linter.unusedSectionVars false
section
set_option maxRecDepth 100000
set_option maxHeartbeats 16000000
namespace Go.Proofs.Ytcgalcbkkijkhaa
open Go Go.Nm
def zap : (List Int) -> (Int × Span) -> M ((List Int) ⊕ Unit) := fun l (x, x2) =>
  M.bind (zaY x2) fun r2 =>
  M.grd (decide ((l.length + ([(r2 : Int)]).length) * 8 <= 140737488355328)) <|
  M.pure (.inl (l ++ ([(r2 : Int)])))
def zav : (List Int) -> (Int × Span) -> M ((List Int) ⊕ Unit) := fun l (x, x2) =>
  M.bind (zbl x2) fun r2 =>
  M.grd (decide ((l.length + ([(r2 : Int)]).length) * 8 <= 140737488355328)) <|
  M.pure (.inl (l ++ ([(r2 : Int)])))
def zay (b_Years : List Yr) (b_Olds : List Old10) (b_First : Int) (b_Last : Int) (from_ : Int) (to_ : Int) (stage : Int) (often : Bool) : M ((List Int) × Int) :=
  M.bind (zaC b_Years b_Olds b_First b_Last from_ to_ stage 0 2000) fun x_ => match x_ with
  | (.inl r1) => (
  bif r1 != 0 then (
  M.pure (([]), r1))
  else (
  M.fail))
  | (.inr (r02, r03, r04, r12)) => (
  bif r12 != 0 then (
  M.fail)
  else (
  M.bind (zbn) fun (_ : Unit) =>
  bif often then (
  M.bind (zaW) fun (_ : Unit) =>
  M.bind (zae b_Years b_Olds r02 r03 r04 b_First b_Last) fun (r00, r10) =>
  M.bind (zag (M.yl zap) (.inl ([])) r00 r10 b_Years b_Olds r02 r03 r04) fun x_ => match x_ with
  | .inl l => (
  M.pure (l, 0))
  | .inr _ => M.fail)
  else (
  M.bind (zae b_Years b_Olds r02 r03 r04 b_First b_Last) fun (r00, r10) =>
  M.bind (zag (M.yl zav) (.inl ([])) r00 r10 b_Years b_Olds r02 r03 r04) fun x_ => match x_ with
  | .inl l => (
  M.pure (l, 0))
  | .inr _ => M.fail)))
theorem zcs {R : List Chunk} {C_b_Years : Cells} {v_b_Years : Value} {C_b_Olds : Cells} {v_b_Olds : Value} (b_Years : List Yr) (b_Olds : List Old10) (b_First : Int) (b_Last : Int) (from_ : Int) (to_ : Int) (stage : Int) (often : Bool) (hC_b_Years : Reads R C_b_Years) (hs_b_Years : Sl C_b_Years v_b_Years b_Years) (hC_b_Olds : Reads R C_b_Olds) (hs_b_Olds : Sl C_b_Olds v_b_Olds b_Olds) {r : ((List Int) × Int)} (hM : (zay b_Years b_Olds b_First b_Last from_ to_ stage often).Ends r) (w : World) (H : St w w [] R) : Ret Try.prog 24 #[.agg #[v_b_Years, v_b_Olds, I b_First, I b_Last], I from_, I to_, I stage, B often] w fun v w' => ∃ (y0 : List Int) (y1 : Int) (u0 : Value), (y0, y1) = r /\ v = .tuple #[u0, I y1] /\ St w w' [cOwn (α := Int) 3 u0 y0] R := by
 refine ret_of_WD Try.func24 rfl rfl rfl ?_
 replace H : St w w [cMk ([])] R := H.mk0
 have hl_b_Years := hs_b_Years.len_le
 have hl_b_Olds := hs_b_Olds.len_le
 unfold zay at hM
 refine WD.seq ?_
 refine WD.of ?_
 refine W.region rfl ?_
 refine t_box (v := .agg #[v_b_Years, v_b_Olds, I b_First, I b_Last]) (cs := [v_b_Years, v_b_Olds, I b_First, I b_Last]) H rfl rfl ?_
 intro b_1 w1z H
 refine s_val (x_as (v := .slice none 0 0) rfl) ?_
 refine s_val (x_as (v := I 0) rfl) ?_
 refine s_nil ?_
 refine WD.seq ?_
 refine WD.of ?_
 refine W.region rfl ?_
 refine s_val (x_ld (p := .pointer (some ⟨b_1, 0, none⟩)) (v := .agg #[v_b_Years, v_b_Olds, I b_First, I b_Last]) rfl (ldb_ag (ds := [v_b_Years, v_b_Olds, I b_First, I b_Last]) Ag26 Sz26 (H.blk (k := 0) rfl) rfl rfl)) ?_
 refine s_val (x_mv (v := I from_) rfl) ?_
 refine s_val (x_mv (v := I to_) rfl) ?_
 refine s_val (x_mv (v := I stage) rfl) ?_
 obtain ⟨r3z, hx2z, hM⟩ := M.e_bind hM
 refine s_call cf52 [.agg #[v_b_Years, v_b_Olds, I b_First, I b_Last], I from_, I to_, I stage, I 0, I 2000] rfl (zbD b_Years b_Olds b_First b_Last from_ to_ stage 0 2000 (hC_b_Years.app _) hs_b_Years (hC_b_Olds.app _) hs_b_Olds hx2z _ (St.give (T := [cBlk b_1 [v_b_Years, v_b_Olds, I b_First, I b_Last] 26, cMk ([])]) H rfl)) ?_
 rintro vq w4z (⟨r1, hr5z, hvq, H2_⟩ | ⟨r02, r03, r04, r12, nb0_2, nb1_3, hr6z, hvq, H2_⟩)
 ·subst hr5z
  subst vq
  try dsimp only at hM
  replace H : St w w4z [cBlk b_1 [v_b_Years, v_b_Olds, I b_First, I b_Last] 26, cMk ([])] R := H.back H2_ rfl
  clear H2_
  refine s_val (x_mv (v := .tuple #[.pointer none, I r1]) rfl) ?_
  refine s_val (x_ext (vs := [.pointer none, I r1]) (v := .pointer none) rfl rfl) ?_
  refine s_val (x_ext (vs := [.pointer none, I r1]) (v := I r1) rfl rfl) ?_
  refine s_val (x_as (v := .pointer none) rfl) ?_
  refine s_val (x_as (v := I r1) rfl) ?_
  refine s_nil ?_
  refine WD.seq ?_
  refine WD.seq ?_
  refine WD.of ?_
  refine W.region rfl ?_
  refine s_val (x_mv (v := I r1) rfl) ?_
  refine s_val (x_cmp (kd := .i64) (a := r1) (b := 0) (r := r1 != 0) rfl rfl rfl) ?_
  refine s_nil ?_
  refine WD.cond (r1 != 0) rfl (fun c7z => ?_) (fun c7z => ?_)
  ·replace hM := M.e_t hM c7z
   simp only [decide_eq_true_eq, decide_eq_false_iff_not, beq_iff_eq, bne_iff_ne, beq_eq_false_iff_ne, bne_eq_false_iff_eq, ne_eq, Decidable.not_not] at c7z
   refine WD.seq ?_
   refine WD.of ?_
   refine W.region rfl ?_
   refine s_val (x_mv (v := I r1) rfl) ?_
   refine s_val (x_as (v := .slice none 0 0) rfl) ?_
   refine s_val (x_as (v := I r1) rfl) ?_
   refine s_nil ?_
   refine WD.of ?_
   refine W.ret ?_
   refine bodyD_r (H.pick [1, 0] (by decide) rfl) ?_
   intro w8z H
   replace H : St w w8z [cBlk b_1 [v_b_Years, v_b_Olds, I b_First, I b_Last] 26] R := H
   have hr_ := M.e_pure hM
   replace H : St w w8z [cOwn (α := Int) 3 (.slice none 0 0) ([]), cBlk b_1 [v_b_Years, v_b_Olds, I b_First, I b_Last] 26] R := H.nilOwn (α := Int) 3
   exact ⟨_, resE_tmp2 rfl, ⟨([]), r1, (.slice none 0 0), hr_, rfl, (H.pick [0] (by decide) rfl)⟩⟩
  replace hM := M.e_f hM c7z
  exact (M.e_fail hM).elim
 subst hr6z
 subst vq
 try dsimp only at hM
 replace H : St w w4z [cBlk nb0_2 [v_b_Years, v_b_Olds, I r02, I r03, .map (some nb1_3)] 126, cMl I encSp nb1_3 r04, cBlk b_1 [v_b_Years, v_b_Olds, I b_First, I b_Last] 26, cMk ([])] R := H.back H2_ rfl
 clear H2_
 refine s_val (x_mv (v := .tuple #[.pointer (some ⟨nb0_2, 0, none⟩), I r12]) rfl) ?_
 refine s_val (x_ext (vs := [.pointer (some ⟨nb0_2, 0, none⟩), I r12]) (v := .pointer (some ⟨nb0_2, 0, none⟩)) rfl rfl) ?_
 refine s_val (x_ext (vs := [.pointer (some ⟨nb0_2, 0, none⟩), I r12]) (v := I r12) rfl rfl) ?_
 refine s_val (x_as (v := .pointer (some ⟨nb0_2, 0, none⟩)) rfl) ?_
 refine s_val (x_as (v := I r12) rfl) ?_
 refine s_nil ?_
 refine WD.seq ?_
 refine WD.seq ?_
 refine WD.of ?_
 refine W.region rfl ?_
 refine s_val (x_mv (v := I r12) rfl) ?_
 refine s_val (x_cmp (kd := .i64) (a := r12) (b := 0) (r := r12 != 0) rfl rfl rfl) ?_
 refine s_nil ?_
 refine WD.cond (r12 != 0) rfl (fun c9z => ?_) (fun c9z => ?_)
 ·replace hM := M.e_t hM c9z
  exact (M.e_fail hM).elim
 replace hM := M.e_f hM c9z
 simp only [decide_eq_true_eq, decide_eq_false_iff_not, beq_iff_eq, bne_iff_ne, beq_eq_false_iff_ne, bne_eq_false_iff_eq, ne_eq, Decidable.not_not] at c9z
 refine WD.of ?_
 refine W.skip ?_
 refine WD.seq ?_
 refine WD.of ?_
 refine W.region rfl ?_
 obtain ⟨r11z, hx10z, hM⟩ := M.e_bind hM
 refine s_call cf55 [] rfl (zbH hx10z _ (St.give (T := [cBlk nb0_2 [v_b_Years, v_b_Olds, I r02, I r03, .map (some nb1_3)] 126, cMl I encSp nb1_3 r04, cBlk b_1 [v_b_Years, v_b_Olds, I b_First, I b_Last] 26, cMk ([])]) H rfl)) ?_
 rintro vq w12z ⟨hr13z, hvq, H2_⟩
 subst hr13z
 subst vq
 try dsimp only at hM
 replace H : St w w12z [cBlk nb0_2 [v_b_Years, v_b_Olds, I r02, I r03, .map (some nb1_3)] 126, cMl I encSp nb1_3 r04, cBlk b_1 [v_b_Years, v_b_Olds, I b_First, I b_Last] 26, cMk ([])] R := H.back H2_ rfl
 clear H2_
 refine t_alloc (cs := [.nilFunc]) H Al113 rfl ?_
 intro b_4 w14z H
 refine t_st (k := 0) (b := b_4) (off := 0) (cs := [.nilFunc]) (vs := [.func (.func 91) #[] #[]]) (cs' := [.func (.func 91) #[] #[]]) (v := .agg #[.func (.func 91) #[] #[]]) (L' := [cBlk b_4 [.func (.func 91) #[] #[]] 113, cBlk nb0_2 [v_b_Years, v_b_Olds, I r02, I r03, .map (some nb1_3)] 126, cMl I encSp nb1_3 r04, cBlk b_1 [v_b_Years, v_b_Olds, I b_First, I b_Last] 26, cMk ([])]) H rfl rfl rfl Sz113 rfl rfl rfl rfl rfl rfl ?_
 intro w15z H
 refine s_nil ?_
 refine WD.seq ?_
 refine WD.seq ?_
 refine WD.of ?_
 refine W.region rfl ?_
 refine s_val (x_mv (v := B often) rfl) ?_
 refine s_nil ?_
 refine WD.cond often rfl (fun c16z => ?_) (fun c16z => ?_)
 ·replace hM := M.e_t hM c16z
  refine WD.of ?_
  refine W.region rfl ?_
  obtain ⟨r18z, hx17z, hM⟩ := M.e_bind hM
  refine s_call cf56 [] rfl (zbd hx17z _ (St.give (T := [cBlk b_4 [.func (.func 91) #[] #[]] 113, cBlk nb0_2 [v_b_Years, v_b_Olds, I r02, I r03, .map (some nb1_3)] 126, cMl I encSp nb1_3 r04, cBlk b_1 [v_b_Years, v_b_Olds, I b_First, I b_Last] 26, cMk ([])]) H rfl)) ?_
  rintro vq w19z ⟨hr20z, hvq, H2_⟩
  subst hr20z
  subst vq
  try dsimp only at hM
  replace H : St w w19z [cBlk b_4 [.func (.func 91) #[] #[]] 113, cBlk nb0_2 [v_b_Years, v_b_Olds, I r02, I r03, .map (some nb1_3)] 126, cMl I encSp nb1_3 r04, cBlk b_1 [v_b_Years, v_b_Olds, I b_First, I b_Last] 26, cMk ([])] R := H.back H2_ rfl
  clear H2_
  refine t_st (k := 0) (b := b_4) (off := 0) (cs := [.func (.func 91) #[] #[]]) (vs := [.func (.func 92) #[] #[]]) (cs' := [.func (.func 92) #[] #[]]) (v := .agg #[.func (.func 92) #[] #[]]) (L' := [cBlk b_4 [.func (.func 92) #[] #[]] 113, cBlk nb0_2 [v_b_Years, v_b_Olds, I r02, I r03, .map (some nb1_3)] 126, cMl I encSp nb1_3 r04, cBlk b_1 [v_b_Years, v_b_Olds, I b_First, I b_Last] 26, cMk ([])]) H rfl rfl rfl Sz113 rfl rfl rfl rfl rfl rfl ?_
  intro w21z H
  refine s_nil ?_
  refine WD.seq ?_
  refine WD.of ?_
  refine W.region rfl ?_
  refine t_alloc (cs := [.slice none 0 0]) H Al27 rfl ?_
  intro b_5 w22z H
  refine s_nil ?_
  refine WD.seq ?_
  refine WD.seq ?_
  refine WD.of ?_
  refine W.region rfl ?_
  refine s_val (x_mv (v := .pointer (some ⟨nb0_2, 0, none⟩)) rfl) ?_
  refine s_val (x_fa (a := .pointer (some ⟨b_1, 0, none⟩)) (v := .pointer (some ⟨b_1, 2, none⟩)) rfl (fa_blk (o := 0) Fd26_2 Sz3)) ?_
  refine s_val (x_ld (p := .pointer (some ⟨b_1, 2, none⟩)) (v := I b_First) rfl (ldb_sc Sc3 (H.blk (k := 4) rfl) rfl)) ?_
  refine s_val (x_fa (a := .pointer (some ⟨b_1, 0, none⟩)) (v := .pointer (some ⟨b_1, 3, none⟩)) rfl (fa_blk (o := 0) Fd26_3 Sz3)) ?_
  refine s_val (x_ld (p := .pointer (some ⟨b_1, 3, none⟩)) (v := I b_Last) rfl (ldb_sc Sc3 (H.blk (k := 4) rfl) rfl)) ?_
  obtain ⟨r24z, hx23z, hM⟩ := M.e_bind hM
  refine s_call cf54 [.pointer (some ⟨nb0_2, 0, none⟩), I b_First, I b_Last] rfl (zaq b_Years b_Olds r02 r03 r04 b_First b_Last (hC_b_Years.app _) hs_b_Years (hC_b_Olds.app _) hs_b_Olds (Has.here (k := 3) rfl) (Has.here (k := 2) rfl) hx23z _ (St.give (T := [cBlk b_5 [.slice none 0 0] 27, cBlk b_4 [.func (.func 92) #[] #[]] 113, cBlk nb0_2 [v_b_Years, v_b_Olds, I r02, I r03, .map (some nb1_3)] 126, cMl I encSp nb1_3 r04, cBlk b_1 [v_b_Years, v_b_Olds, I b_First, I b_Last] 26, cMk ([])]) H rfl)) ?_
  rintro vq w25z ⟨r00, r10, nb0_6, nb1_7, nb2_8, hr26z, hvq, H2_⟩
  subst hr26z
  subst vq
  try dsimp only at hM
  replace H : St w w25z [cBlk nb0_6 [I r00] 3, cBlk nb1_7 [I r10] 3, cBlk nb2_8 [.pointer (some ⟨nb0_2, 0, none⟩)] 102, cBlk b_5 [.slice none 0 0] 27, cBlk b_4 [.func (.func 92) #[] #[]] 113, cBlk nb0_2 [v_b_Years, v_b_Olds, I r02, I r03, .map (some nb1_3)] 126, cMl I encSp nb1_3 r04, cBlk b_1 [v_b_Years, v_b_Olds, I b_First, I b_Last] 26, cMk ([])] R := H.back H2_ rfl
  clear H2_
  refine s_nil ?_
  refine WD.block ?_
  replace H : St w w25z [cOwn (α := Int) 3 (.slice none 0 0) ([]), cBlk nb0_6 [I r00] 3, cBlk nb1_7 [I r10] 3, cBlk nb2_8 [.pointer (some ⟨nb0_2, 0, none⟩)] 102, cBlk b_5 [.slice none 0 0] 27, cBlk b_4 [.func (.func 92) #[] #[]] 113, cBlk nb0_2 [v_b_Years, v_b_Olds, I r02, I r03, .map (some nb1_3)] 126, cMl I encSp nb1_3 r04, cBlk b_1 [v_b_Years, v_b_Olds, I b_First, I b_Last] 26, cMk ([])] R := H.nilOwn (α := Int) 3
  obtain ⟨t27z, hx28z, hM⟩ := M.e_bind hM
  refine WD.range (L := [cOwn (α := Int) 3 (.slice none 0 0) ([]), cBlk b_5 [(.slice none 0 0)] 27, cBlk nb0_6 [I r00] 3, cBlk nb1_7 [I r10] 3, cBlk nb2_8 [.pointer (some ⟨nb0_2, 0, none⟩)] 102, cBlk b_4 [.func (.func 92) #[] #[]] 113, cBlk nb0_2 [v_b_Years, v_b_Olds, I r02, I r03, .map (some nb1_3)] 126, cMl I encSp nb1_3 r04, cBlk b_1 [v_b_Years, v_b_Olds, I b_First, I b_Last] 26]) [.pointer (some ⟨nb0_6, 0, none⟩), .pointer (some ⟨nb1_7, 0, none⟩), .pointer (some ⟨nb2_8, 0, none⟩)] (H.pick [9, 0, 4, 1, 2, 3, 5, 6, 7, 8] (by decide) rfl) rfl cf90 ?_
  intro l29z D30z r31z w32z hr33z H
  have hYC : YieldC Try.prog ([cMk (D30z :: ([])), cBlk nb0_6 [I r00] 3, cBlk nb1_7 [I r10] 3, cBlk nb2_8 [.pointer (some ⟨nb0_2, 0, none⟩)] 102, cBlk b_4 [.func (.func 92) #[] #[]] 113, cBlk nb0_2 [v_b_Years, v_b_Olds, I r02, I r03, .map (some nb1_3)] 126, cMl I encSp nb1_3 r04, cBlk b_1 [v_b_Years, v_b_Olds, I b_First, I b_Last] 26] ++ R) arISpan (yJ l29z r31z (fun l Ls_ => ∃ (v_l : Value), Ls_ = [cOwn (α := Int) 3 v_l l, cBlk b_5 [v_l] 27]) (fun (_ : Unit) _ => False) (fun _ => .ret)) (.func (.yield l29z) #[] #[]) (M.yl zap) := by
   refine YieldC.mk2 hr33z (fun l Ls_ => ∃ (v_l : Value), Ls_ = [cOwn (α := Int) 3 v_l l, cBlk b_5 [v_l] 27]) (fun (_ : Unit) _ => False) (fun _ => .ret) zap (by rintro l _ h_; obtain ⟨_, rfl⟩ := h_; rfl) (fun _ _ h_ => h_.elim) rfl (arISpan_len rfl) ?_
   intro C_ vs_ x_ hA_
   obtain ⟨x, x2⟩ := x_
   obtain rfl := hA_
   intro w R hR_ Ls_ s_ r hY_ hM H
   skip
   obtain ⟨l, hs_eq_⟩ : ∃ y_, y_ = s_ := ⟨_, rfl⟩
   subst hs_eq_
   obtain ⟨v_l, rfl⟩ := hY_
   replace H : St w w [cOwn (α := Int) 3 v_l l, cBlk b_5 [v_l] 27, cMk (D30z :: ([])), cBlk nb0_6 [I r00] 3, cBlk nb1_7 [I r10] 3, cBlk nb2_8 [.pointer (some ⟨nb0_2, 0, none⟩)] 102, cBlk b_4 [.func (.func 92) #[] #[]] 113, cBlk nb0_2 [v_b_Years, v_b_Olds, I r02, I r03, .map (some nb1_3)] 126, cMl I encSp nb1_3 r04, cBlk b_1 [v_b_Years, v_b_Olds, I b_First, I b_Last] 26] R := H
   refine W.region rfl ?_
   refine t_alloc (cs := [I 0, I 0]) H Al35 rfl ?_
   intro b_9 w34z H
   refine t_st (k := 0) (b := b_9) (off := 0) (cs := [I 0, I 0]) (vs := [I x2.lo, I x2.hi]) (cs' := [I x2.lo, I x2.hi]) (v := .agg #[I x2.lo, I x2.hi]) (L' := [cBlk b_9 [I x2.lo, I x2.hi] 35, cOwn (α := Int) 3 v_l l, cBlk b_5 [v_l] 27, cMk (D30z :: ([])), cBlk nb0_6 [I r00] 3, cBlk nb1_7 [I r10] 3, cBlk nb2_8 [.pointer (some ⟨nb0_2, 0, none⟩)] 102, cBlk b_4 [.func (.func 92) #[] #[]] 113, cBlk nb0_2 [v_b_Years, v_b_Olds, I r02, I r03, .map (some nb1_3)] 126, cMl I encSp nb1_3 r04, cBlk b_1 [v_b_Years, v_b_Olds, I b_First, I b_Last] 26]) H rfl rfl rfl Sz35 rfl rfl rfl rfl rfl rfl ?_
   intro w35z H
   refine s_nil ?_
   refine ⟨rfl, [cBlk b_9 [I x2.lo, I x2.hi] 35], H.pick [0, 1, 2, 3, 4, 5, 6, 7, 8, 9, 10] (by decide) rfl, ?_⟩
   clear H hR_
   intro w R hR_ H
   replace hC_b_Years := hC_b_Years.sub hR_
   replace hC_b_Olds := hC_b_Olds.sub hR_
   replace hM : (zap l (x, x2)).Ends r := hM
   simp only [zap] at hM
   replace H : St w w [cBlk b_9 [I x2.lo, I x2.hi] 35, cOwn (α := Int) 3 v_l l, cBlk b_5 [v_l] 27, cMk (D30z :: ([])), cBlk nb0_6 [I r00] 3, cBlk nb1_7 [I r10] 3, cBlk nb2_8 [.pointer (some ⟨nb0_2, 0, none⟩)] 102, cBlk b_4 [.func (.func 92) #[] #[]] 113, cBlk nb0_2 [v_b_Years, v_b_Olds, I r02, I r03, .map (some nb1_3)] 126, cMl I encSp nb1_3 r04, cBlk b_1 [v_b_Years, v_b_Olds, I b_First, I b_Last] 26] R := H
   refine W.block ?_
   refine W.drawT (fun W => St w W [cBlk b_9 [I x2.lo, I x2.hi] 35, cMk (D30z :: ([])), cBlk nb0_6 [I r00] 3, cBlk nb1_7 [I r10] 3, cBlk nb2_8 [.pointer (some ⟨nb0_2, 0, none⟩)] 102, cBlk b_4 [.func (.func 92) #[] #[]] 113, cBlk nb0_2 [v_b_Years, v_b_Olds, I r02, I r03, .map (some nb1_3)] 126, cMl I encSp nb1_3 r04, cBlk b_1 [v_b_Years, v_b_Olds, I b_First, I b_Last] 26] R) (.q 1 (.q 2 (.q 3 (.l2 0 (.l 4 (.l 5 (.l 6 (.l 7 .nil)))) 4 (.l2 0 (.l 5 (.l 6 (.l 7 .nil))) 5 (.l 0 (.l 6 (.l 7 .nil)))))))) mixed (by decide +kernel) rfl ?_
   intro w36z hx_
   replace H : St w w36z [cBlk b_9 [I x2.lo, I x2.hi] 35, cOwn (α := Int) 3 v_l l, cBlk b_5 [v_l] 27, cMk (D30z :: ([])), cBlk nb0_6 [I r00] 3, cBlk nb1_7 [I r10] 3, cBlk nb2_8 [.pointer (some ⟨nb0_2, 0, none⟩)] 102, cBlk b_4 [.func (.func 92) #[] #[]] 113, cBlk nb0_2 [v_b_Years, v_b_Olds, I r02, I r03, .map (some nb1_3)] 126, cMl I encSp nb1_3 r04, cBlk b_1 [v_b_Years, v_b_Olds, I b_First, I b_Last] 26] R := H.ext hx_
   clear hx_
   refine ⟨(H.pick [0, 3, 4, 5, 6, 7, 8, 9, 10] (by decide) rfl), ?_⟩
   refine t_q rfl (fun w' H => x_fa (a := .pointer (some ⟨b_4, 0, none⟩)) (v := .pointer (some ⟨b_4, 0, none⟩)) rfl (fa_blk (o := 0) Fd113_0 Sz111)) ?_
   refine t_q rfl (fun w' H => x_ld (p := .pointer (some ⟨b_4, 0, none⟩)) (v := .func (.func 92) #[] #[]) rfl (ldb_sc Sc111 (H.blk (k := 5) rfl) rfl)) ?_
   refine t_q rfl (fun w' H => x_ld (p := .pointer (some ⟨b_9, 0, none⟩)) (v := .agg #[I x2.lo, I x2.hi]) rfl (ldb_ag (ds := [I x2.lo, I x2.hi]) Ag35 Sz35 (H.blk (k := 0) rfl) rfl rfl)) ?_
   refine t_l2 rfl rfl ?_ ?_
   ·skip
    refine s_val (x_ld (p := .pointer (some ⟨b_5, 0, none⟩)) (v := v_l) rfl (ldb_sc Sc27 (H.blk (k := 2) rfl) rfl)) ?_
    have hvc_q47z := Sl.cells (ownSl (H.get (k := 1) rfl))
    have hvo_q47z := Sl.oc (ownSl (H.get (k := 1) rfl))
    refine s_nil ⟨(H.pick [0, 3, 4, 5, 6, 7, 8, 9, 10] (by decide) rfl), ?_⟩
    refine t_l rfl ?_
    obtain ⟨r49z, hx48z, hM⟩ := M.e_bind hM
    refine s_callv (f := 92) rfl cf92 [.agg #[I x2.lo, I x2.hi]] rfl (zaz x2 hx48z _ (St.give (T := [cBlk b_9 [I x2.lo, I x2.hi] 35, cOwn (α := Int) 3 v_l l, cBlk b_5 [v_l] 27, cMk (D30z :: ([])), cBlk nb0_6 [I r00] 3, cBlk nb1_7 [I r10] 3, cBlk nb2_8 [.pointer (some ⟨nb0_2, 0, none⟩)] 102, cBlk b_4 [.func (.func 92) #[] #[]] 113, cBlk nb0_2 [v_b_Years, v_b_Olds, I r02, I r03, .map (some nb1_3)] 126, cMl I encSp nb1_3 r04, cBlk b_1 [v_b_Years, v_b_Olds, I b_First, I b_Last] 26]) H rfl)) ?_
    rintro vq w50z ⟨r2, hr51z, hvq, H2_⟩
    subst hr51z
    subst vq
    try dsimp only at hM
    replace H : St w w50z [cBlk b_9 [I x2.lo, I x2.hi] 35, cOwn (α := Int) 3 v_l l, cBlk b_5 [v_l] 27, cMk (D30z :: ([])), cBlk nb0_6 [I r00] 3, cBlk nb1_7 [I r10] 3, cBlk nb2_8 [.pointer (some ⟨nb0_2, 0, none⟩)] 102, cBlk b_4 [.func (.func 92) #[] #[]] 113, cBlk nb0_2 [v_b_Years, v_b_Olds, I r02, I r03, .map (some nb1_3)] 126, cMl I encSp nb1_3 r04, cBlk b_1 [v_b_Years, v_b_Olds, I b_First, I b_Last] 26] R := H.back H2_ rfl
    clear H2_
    refine s_nil ⟨(H.pick [0, 3, 4, 5, 6, 7, 8, 9, 10] (by decide) rfl), ?_⟩
    refine t_l rfl ?_
    refine t_bs (α := Int) T27 [I r2] [(r2 : Int)] H rfl (.cons rfl (Flat.rep_enc _ (r2 : Int)) <| .nil) rfl rfl rfl ?_
    intro v52z w53z H
    have hvc_q54z := Sl.cells (ownSl (H.get (k := 0) rfl))
    have hvo_q54z := Sl.oc (ownSl (H.get (k := 0) rfl))
    refine s_nil ⟨(H.pick [1, 4, 5, 6, 7, 8, 9, 10, 11] (by decide) rfl), ?_⟩
    refine t_l rfl ?_
    obtain ⟨sd55z, hM⟩ := M.e_grd hM
    simp only [Bool.and_eq_true, decide_eq_true_eq] at sd55z
    refine t_app (α := Int) (k := 2) (l := l) (l2 := [(r2 : Int)]) (l' := l ++ ([(r2 : Int)])) (vy := v52z) T27 rfl H rfl rfl rfl (ownSl (H.get (k := 0) rfl)) (ownLe _ (H.get (k := 0) rfl)) (rfl) (by first | omega | (simp only [List.length_nil] at *; omega)) ?_
    intro v56z w57z H
    replace H : St w w57z [cOwn (α := Int) 3 v52z ([(r2 : Int)]), cBlk b_9 [I x2.lo, I x2.hi] 35, cOwn (α := Int) 3 v56z (l ++ ([(r2 : Int)])), cBlk b_5 [v_l] 27, cMk (D30z :: ([])), cBlk nb0_6 [I r00] 3, cBlk nb1_7 [I r10] 3, cBlk nb2_8 [.pointer (some ⟨nb0_2, 0, none⟩)] 102, cBlk b_4 [.func (.func 92) #[] #[]] 113, cBlk nb0_2 [v_b_Years, v_b_Olds, I r02, I r03, .map (some nb1_3)] 126, cMl I encSp nb1_3 r04, cBlk b_1 [v_b_Years, v_b_Olds, I b_First, I b_Last] 26] R := H
    have hvc_q58z := Sl.cells (ownSl (H.get (k := 2) rfl))
    have hvo_q58z := Sl.oc (ownSl (H.get (k := 2) rfl))
    refine s_nil ⟨(H.pick [1, 4, 5, 6, 7, 8, 9, 10, 11] (by decide) rfl), ?_⟩
    refine t_l rfl ?_
    refine t_st (k := 3) (b := b_5) (off := 0) (cs := [v_l]) (vs := [v56z]) (cs' := [v56z]) (v := v56z) (L' := [cOwn (α := Int) 3 v52z ([(r2 : Int)]), cBlk b_9 [I x2.lo, I x2.hi] 35, cOwn (α := Int) 3 v56z (l ++ ([(r2 : Int)])), cBlk b_5 [v56z] 27, cMk (D30z :: ([])), cBlk nb0_6 [I r00] 3, cBlk nb1_7 [I r10] 3, cBlk nb2_8 [.pointer (some ⟨nb0_2, 0, none⟩)] 102, cBlk b_4 [.func (.func 92) #[] #[]] 113, cBlk nb0_2 [v_b_Years, v_b_Olds, I r02, I r03, .map (some nb1_3)] 126, cMl I encSp nb1_3 r04, cBlk b_1 [v_b_Years, v_b_Olds, I b_First, I b_Last] 26]) H rfl rfl rfl Sz27 (Sl.cells (ownSl (H.get (k := 2) rfl))) rfl rfl (by simp only [List.all_cons, List.all_nil, Bool.true_and, Bool.and_true, Sl.oc (ownSl (H.get (k := 2) rfl))]; try rfl) rfl rfl ?_
    intro w59z H
    refine s_nil ⟨(H.pick [1, 4, 5, 6, 7, 8, 9, 10, 11] (by decide) rfl), ?_⟩
    refine t_nil ?_
    exact ⟨l ++ ([(r2 : Int)]), [cOwn (α := Int) 3 v56z (l ++ ([(r2 : Int)])), cBlk b_5 [v56z] 27], (M.e_pure hM).symm, ⟨v56z, rfl⟩, H.pick [2, 3, 4, 5, 6, 7, 8, 9, 10, 11] (by decide) rfl⟩
   skip
   obtain ⟨r61z, hx60z, hM⟩ := M.e_bind hM
   refine s_callv (f := 92) rfl cf92 [.agg #[I x2.lo, I x2.hi]] rfl (zaz x2 hx60z _ (St.give (T := [cBlk b_9 [I x2.lo, I x2.hi] 35, cOwn (α := Int) 3 v_l l, cBlk b_5 [v_l] 27, cMk (D30z :: ([])), cBlk nb0_6 [I r00] 3, cBlk nb1_7 [I r10] 3, cBlk nb2_8 [.pointer (some ⟨nb0_2, 0, none⟩)] 102, cBlk b_4 [.func (.func 92) #[] #[]] 113, cBlk nb0_2 [v_b_Years, v_b_Olds, I r02, I r03, .map (some nb1_3)] 126, cMl I encSp nb1_3 r04, cBlk b_1 [v_b_Years, v_b_Olds, I b_First, I b_Last] 26]) H rfl)) ?_
   rintro vq w62z ⟨r2, hr63z, hvq, H2_⟩
   subst hr63z
   subst vq
   try dsimp only at hM
   replace H : St w w62z [cBlk b_9 [I x2.lo, I x2.hi] 35, cOwn (α := Int) 3 v_l l, cBlk b_5 [v_l] 27, cMk (D30z :: ([])), cBlk nb0_6 [I r00] 3, cBlk nb1_7 [I r10] 3, cBlk nb2_8 [.pointer (some ⟨nb0_2, 0, none⟩)] 102, cBlk b_4 [.func (.func 92) #[] #[]] 113, cBlk nb0_2 [v_b_Years, v_b_Olds, I r02, I r03, .map (some nb1_3)] 126, cMl I encSp nb1_3 r04, cBlk b_1 [v_b_Years, v_b_Olds, I b_First, I b_Last] 26] R := H.back H2_ rfl
   clear H2_
   have hvc_q64z := Sl.cells (ownSl (H.get (k := 1) rfl))
   have hvo_q64z := Sl.oc (ownSl (H.get (k := 1) rfl))
   refine s_nil ⟨(H.pick [0, 3, 4, 5, 6, 7, 8, 9, 10] (by decide) rfl), ?_⟩
   obtain ⟨sd67z, hM⟩ := M.e_grd hM
   simp only [Bool.and_eq_true, decide_eq_true_eq] at sd67z
   refine t_l2 rfl rfl ?_ ?_
   ·skip
    refine s_val (x_ld (p := .pointer (some ⟨b_5, 0, none⟩)) (v := v_l) rfl (ldb_sc Sc27 (H.blk (k := 2) rfl) rfl)) ?_
    refine s_nil ⟨(H.pick [0, 3, 4, 5, 6, 7, 8, 9, 10] (by decide) rfl), ?_⟩
    refine t_l rfl ?_
    refine t_bs (α := Int) T27 [I r2] [(r2 : Int)] H rfl (.cons rfl (Flat.rep_enc _ (r2 : Int)) <| .nil) rfl rfl rfl ?_
    intro v71z w72z H
    have hvc_q73z := Sl.cells (ownSl (H.get (k := 0) rfl))
    have hvo_q73z := Sl.oc (ownSl (H.get (k := 0) rfl))
    refine s_nil ⟨(H.pick [1, 4, 5, 6, 7, 8, 9, 10, 11] (by decide) rfl), ?_⟩
    refine t_l rfl ?_
    refine t_app (α := Int) (k := 2) (l := l) (l2 := [(r2 : Int)]) (l' := l ++ ([(r2 : Int)])) (vy := v71z) T27 rfl H rfl rfl rfl (ownSl (H.get (k := 0) rfl)) (ownLe _ (H.get (k := 0) rfl)) (rfl) (by first | omega | (simp only [List.length_nil] at *; omega)) ?_
    intro v74z w75z H
    replace H : St w w75z [cOwn (α := Int) 3 v71z ([(r2 : Int)]), cBlk b_9 [I x2.lo, I x2.hi] 35, cOwn (α := Int) 3 v74z (l ++ ([(r2 : Int)])), cBlk b_5 [v_l] 27, cMk (D30z :: ([])), cBlk nb0_6 [I r00] 3, cBlk nb1_7 [I r10] 3, cBlk nb2_8 [.pointer (some ⟨nb0_2, 0, none⟩)] 102, cBlk b_4 [.func (.func 92) #[] #[]] 113, cBlk nb0_2 [v_b_Years, v_b_Olds, I r02, I r03, .map (some nb1_3)] 126, cMl I encSp nb1_3 r04, cBlk b_1 [v_b_Years, v_b_Olds, I b_First, I b_Last] 26] R := H
    have hvc_q76z := Sl.cells (ownSl (H.get (k := 2) rfl))
    have hvo_q76z := Sl.oc (ownSl (H.get (k := 2) rfl))
    refine s_nil ⟨(H.pick [1, 4, 5, 6, 7, 8, 9, 10, 11] (by decide) rfl), ?_⟩
    refine t_l rfl ?_
    refine t_st (k := 3) (b := b_5) (off := 0) (cs := [v_l]) (vs := [v74z]) (cs' := [v74z]) (v := v74z) (L' := [cOwn (α := Int) 3 v71z ([(r2 : Int)]), cBlk b_9 [I x2.lo, I x2.hi] 35, cOwn (α := Int) 3 v74z (l ++ ([(r2 : Int)])), cBlk b_5 [v74z] 27, cMk (D30z :: ([])), cBlk nb0_6 [I r00] 3, cBlk nb1_7 [I r10] 3, cBlk nb2_8 [.pointer (some ⟨nb0_2, 0, none⟩)] 102, cBlk b_4 [.func (.func 92) #[] #[]] 113, cBlk nb0_2 [v_b_Years, v_b_Olds, I r02, I r03, .map (some nb1_3)] 126, cMl I encSp nb1_3 r04, cBlk b_1 [v_b_Years, v_b_Olds, I b_First, I b_Last] 26]) H rfl rfl rfl Sz27 (Sl.cells (ownSl (H.get (k := 2) rfl))) rfl rfl (by simp only [List.all_cons, List.all_nil, Bool.true_and, Bool.and_true, Sl.oc (ownSl (H.get (k := 2) rfl))]; try rfl) rfl rfl ?_
    intro w77z H
    refine s_nil ⟨(H.pick [1, 4, 5, 6, 7, 8, 9, 10, 11] (by decide) rfl), ?_⟩
    refine t_nil ?_
    exact ⟨l ++ ([(r2 : Int)]), [cOwn (α := Int) 3 v74z (l ++ ([(r2 : Int)])), cBlk b_5 [v74z] 27], (M.e_pure hM).symm, ⟨v74z, rfl⟩, H.pick [2, 3, 4, 5, 6, 7, 8, 9, 10, 11] (by decide) rfl⟩
   skip
   refine t_bs (α := Int) T27 [I r2] [(r2 : Int)] H rfl (.cons rfl (Flat.rep_enc _ (r2 : Int)) <| .nil) rfl rfl rfl ?_
   intro v78z w79z H
   have hvc_q80z := Sl.cells (ownSl (H.get (k := 0) rfl))
   have hvo_q80z := Sl.oc (ownSl (H.get (k := 0) rfl))
   refine s_nil ⟨(H.pick [1, 4, 5, 6, 7, 8, 9, 10, 11] (by decide) rfl), ?_⟩
   refine t_l rfl ?_
   refine s_val (x_ld (p := .pointer (some ⟨b_5, 0, none⟩)) (v := v_l) rfl (ldb_sc Sc27 (H.blk (k := 3) rfl) rfl)) ?_
   refine s_nil ⟨(H.pick [1, 4, 5, 6, 7, 8, 9, 10, 11] (by decide) rfl), ?_⟩
   refine t_l rfl ?_
   refine t_app (α := Int) (k := 2) (l := l) (l2 := [(r2 : Int)]) (l' := l ++ ([(r2 : Int)])) (vy := v78z) T27 rfl H rfl rfl rfl (ownSl (H.get (k := 0) rfl)) (ownLe _ (H.get (k := 0) rfl)) (rfl) (by first | omega | (simp only [List.length_nil] at *; omega)) ?_
   intro v81z w82z H
   replace H : St w w82z [cOwn (α := Int) 3 v78z ([(r2 : Int)]), cBlk b_9 [I x2.lo, I x2.hi] 35, cOwn (α := Int) 3 v81z (l ++ ([(r2 : Int)])), cBlk b_5 [v_l] 27, cMk (D30z :: ([])), cBlk nb0_6 [I r00] 3, cBlk nb1_7 [I r10] 3, cBlk nb2_8 [.pointer (some ⟨nb0_2, 0, none⟩)] 102, cBlk b_4 [.func (.func 92) #[] #[]] 113, cBlk nb0_2 [v_b_Years, v_b_Olds, I r02, I r03, .map (some nb1_3)] 126, cMl I encSp nb1_3 r04, cBlk b_1 [v_b_Years, v_b_Olds, I b_First, I b_Last] 26] R := H
   have hvc_q83z := Sl.cells (ownSl (H.get (k := 2) rfl))
   have hvo_q83z := Sl.oc (ownSl (H.get (k := 2) rfl))
   refine s_nil ⟨(H.pick [1, 4, 5, 6, 7, 8, 9, 10, 11] (by decide) rfl), ?_⟩
   refine t_l rfl ?_
   refine t_st (k := 3) (b := b_5) (off := 0) (cs := [v_l]) (vs := [v81z]) (cs' := [v81z]) (v := v81z) (L' := [cOwn (α := Int) 3 v78z ([(r2 : Int)]), cBlk b_9 [I x2.lo, I x2.hi] 35, cOwn (α := Int) 3 v81z (l ++ ([(r2 : Int)])), cBlk b_5 [v81z] 27, cMk (D30z :: ([])), cBlk nb0_6 [I r00] 3, cBlk nb1_7 [I r10] 3, cBlk nb2_8 [.pointer (some ⟨nb0_2, 0, none⟩)] 102, cBlk b_4 [.func (.func 92) #[] #[]] 113, cBlk nb0_2 [v_b_Years, v_b_Olds, I r02, I r03, .map (some nb1_3)] 126, cMl I encSp nb1_3 r04, cBlk b_1 [v_b_Years, v_b_Olds, I b_First, I b_Last] 26]) H rfl rfl rfl Sz27 (Sl.cells (ownSl (H.get (k := 2) rfl))) rfl rfl (by simp only [List.all_cons, List.all_nil, Bool.true_and, Bool.and_true, Sl.oc (ownSl (H.get (k := 2) rfl))]; try rfl) rfl rfl ?_
   intro w84z H
   refine s_nil ⟨(H.pick [1, 4, 5, 6, 7, 8, 9, 10, 11] (by decide) rfl), ?_⟩
   refine t_nil ?_
   exact ⟨l ++ ([(r2 : Int)]), [cOwn (α := Int) 3 v81z (l ++ ([(r2 : Int)])), cBlk b_5 [v81z] 27], (M.e_pure hM).symm, ⟨v81z, rfl⟩, H.pick [2, 3, 4, 5, 6, 7, 8, 9, 10, 11] (by decide) rfl⟩
  replace H : St w w32z (cAll (cObj l29z (.loop r31z) :: [cOwn (α := Int) 3 (.slice none 0 0) ([]), cBlk b_5 [(.slice none 0 0)] 27]) :: [cMk (D30z :: ([])), cBlk nb0_6 [I r00] 3, cBlk nb1_7 [I r10] 3, cBlk nb2_8 [.pointer (some ⟨nb0_2, 0, none⟩)] 102, cBlk b_4 [.func (.func 92) #[] #[]] 113, cBlk nb0_2 [v_b_Years, v_b_Olds, I r02, I r03, .map (some nb1_3)] 126, cMl I encSp nb1_3 r04, cBlk b_1 [v_b_Years, v_b_Olds, I b_First, I b_Last] 26]) R := St.bundleB (A := cObj l29z (.loop r31z) :: [cOwn (α := Int) 3 (.slice none 0 0) ([]), cBlk b_5 [(.slice none 0 0)] 27]) (T := [cMk (D30z :: ([])), cBlk nb0_6 [I r00] 3, cBlk nb1_7 [I r10] 3, cBlk nb2_8 [.pointer (some ⟨nb0_2, 0, none⟩)] 102, cBlk b_4 [.func (.func 92) #[] #[]] 113, cBlk nb0_2 [v_b_Years, v_b_Olds, I r02, I r03, .map (some nb1_3)] 126, cMl I encSp nb1_3 r04, cBlk b_1 [v_b_Years, v_b_Olds, I b_First, I b_Last] 26]) rfl (H.pick [0, 2, 3, 1, 4, 5, 6, 7, 8, 9, 10] (by decide) rfl)
  refine (zaj (M.yl zap) (.inl ([])) r00 r10 b_Years b_Olds r02 r03 r04 hYC ⟨_, rfl, ⟨(.slice none 0 0), rfl⟩⟩ (Has.here (k := 1) rfl) (Has.here (k := 2) rfl) (hC_b_Years.app _) hs_b_Years (hC_b_Olds.app _) hs_b_Olds (Has.here (k := 6) rfl) (Has.here (k := 5) rfl) (Has.here (k := 3) rfl) hx28z _ (St.give (A := [cAll (cObj l29z (.loop r31z) :: [cOwn (α := Int) 3 (.slice none 0 0) ([]), cBlk b_5 [(.slice none 0 0)] 27])]) (T := [cMk (D30z :: ([])), cBlk nb0_6 [I r00] 3, cBlk nb1_7 [I r10] 3, cBlk nb2_8 [.pointer (some ⟨nb0_2, 0, none⟩)] 102, cBlk b_4 [.func (.func 92) #[] #[]] 113, cBlk nb0_2 [v_b_Years, v_b_Olds, I r02, I r03, .map (some nb1_3)] 126, cMl I encSp nb1_3 r04, cBlk b_1 [v_b_Years, v_b_Olds, I b_First, I b_Last] 26]) H rfl)).mono ?_
  rintro vq w85z ⟨t89z, Ls87z, hq90z, hvq, H2_, hY88z⟩
  subst hq90z
  replace H := H.back H2_ rfl
  clear H2_ hYC
  rcases t89z with l | _
  ·try dsimp only at hM
   obtain ⟨_, rfl, v_l, rfl⟩ := hY88z
   refine ⟨_, [cOwn (α := Int) 3 v_l l, cBlk b_5 [v_l] 27, cBlk nb0_6 [I r00] 3, cBlk nb1_7 [I r10] 3, cBlk nb2_8 [.pointer (some ⟨nb0_2, 0, none⟩)] 102, cBlk b_4 [.func (.func 92) #[] #[]] 113, cBlk nb0_2 [v_b_Years, v_b_Olds, I r02, I r03, .map (some nb1_3)] 126, cMl I encSp nb1_3 r04, cBlk b_1 [v_b_Years, v_b_Olds, I b_First, I b_Last] 26], H.unbundle.pick [0, 3, 1, 2, 4, 5, 6, 7, 8, 9, 10] (by decide) rfl, hr33z.nb, ?_⟩
   intro w86z H
   rw [hr33z.pd]
   replace H : St w w86z [cMk (D30z :: ([])), cOwn (α := Int) 3 v_l l, cBlk b_5 [v_l] 27, cBlk nb0_6 [I r00] 3, cBlk nb1_7 [I r10] 3, cBlk nb2_8 [.pointer (some ⟨nb0_2, 0, none⟩)] 102, cBlk b_4 [.func (.func 92) #[] #[]] 113, cBlk nb0_2 [v_b_Years, v_b_Olds, I r02, I r03, .map (some nb1_3)] 126, cMl I encSp nb1_3 r04, cBlk b_1 [v_b_Years, v_b_Olds, I b_First, I b_Last] 26] R := H
   try simp only []
   refine WD.seq ?_
   refine WD.of ?_
   refine W.region rfl ?_
   refine s_val (x_ld (p := .pointer (some ⟨b_5, 0, none⟩)) (v := v_l) rfl (ldb_sc Sc27 (H.blk (k := 2) rfl) rfl)) ?_
   refine s_val (x_as (v := v_l) rfl) ?_
   refine s_val (x_as (v := I 0) rfl) ?_
   refine s_nil ?_
   refine WD.of ?_
   refine W.ret ?_
   refine bodyD_r (H.pick [0, 1, 2, 3, 4, 5, 6, 7, 8, 9] (by decide) rfl) ?_
   intro w91z H
   replace H : St w w91z [cOwn (α := Int) 3 v_l l, cBlk b_5 [v_l] 27, cBlk nb0_6 [I r00] 3, cBlk nb1_7 [I r10] 3, cBlk nb2_8 [.pointer (some ⟨nb0_2, 0, none⟩)] 102, cBlk b_4 [.func (.func 92) #[] #[]] 113, cBlk nb0_2 [v_b_Years, v_b_Olds, I r02, I r03, .map (some nb1_3)] 126, cMl I encSp nb1_3 r04, cBlk b_1 [v_b_Years, v_b_Olds, I b_First, I b_Last] 26] R := H
   have hr_ := M.e_pure hM
   exact ⟨_, resE_tmp2 rfl, ⟨l, 0, v_l, hr_, rfl, (H.pick [0] (by decide) rfl)⟩⟩
  obtain ⟨_, _, h_⟩ := hY88z; exact h_.elim
 replace hM := M.e_f hM c16z
 refine WD.of ?_
 refine W.skip ?_
 refine WD.seq ?_
 refine WD.of ?_
 refine W.region rfl ?_
 refine t_alloc (cs := [.slice none 0 0]) H Al27 rfl ?_
 intro b_5 w92z H
 refine s_nil ?_
 refine WD.seq ?_
 refine WD.seq ?_
 refine WD.of ?_
 refine W.region rfl ?_
 refine s_val (x_mv (v := .pointer (some ⟨nb0_2, 0, none⟩)) rfl) ?_
 refine s_val (x_fa (a := .pointer (some ⟨b_1, 0, none⟩)) (v := .pointer (some ⟨b_1, 2, none⟩)) rfl (fa_blk (o := 0) Fd26_2 Sz3)) ?_
 refine s_val (x_ld (p := .pointer (some ⟨b_1, 2, none⟩)) (v := I b_First) rfl (ldb_sc Sc3 (H.blk (k := 4) rfl) rfl)) ?_
 refine s_val (x_fa (a := .pointer (some ⟨b_1, 0, none⟩)) (v := .pointer (some ⟨b_1, 3, none⟩)) rfl (fa_blk (o := 0) Fd26_3 Sz3)) ?_
 refine s_val (x_ld (p := .pointer (some ⟨b_1, 3, none⟩)) (v := I b_Last) rfl (ldb_sc Sc3 (H.blk (k := 4) rfl) rfl)) ?_
 obtain ⟨r94z, hx93z, hM⟩ := M.e_bind hM
 refine s_call cf54 [.pointer (some ⟨nb0_2, 0, none⟩), I b_First, I b_Last] rfl (zaq b_Years b_Olds r02 r03 r04 b_First b_Last (hC_b_Years.app _) hs_b_Years (hC_b_Olds.app _) hs_b_Olds (Has.here (k := 3) rfl) (Has.here (k := 2) rfl) hx93z _ (St.give (T := [cBlk b_5 [.slice none 0 0] 27, cBlk b_4 [.func (.func 91) #[] #[]] 113, cBlk nb0_2 [v_b_Years, v_b_Olds, I r02, I r03, .map (some nb1_3)] 126, cMl I encSp nb1_3 r04, cBlk b_1 [v_b_Years, v_b_Olds, I b_First, I b_Last] 26, cMk ([])]) H rfl)) ?_
 rintro vq w95z ⟨r00, r10, nb0_6, nb1_7, nb2_8, hr96z, hvq, H2_⟩
 subst hr96z
 subst vq
 try dsimp only at hM
 replace H : St w w95z [cBlk nb0_6 [I r00] 3, cBlk nb1_7 [I r10] 3, cBlk nb2_8 [.pointer (some ⟨nb0_2, 0, none⟩)] 102, cBlk b_5 [.slice none 0 0] 27, cBlk b_4 [.func (.func 91) #[] #[]] 113, cBlk nb0_2 [v_b_Years, v_b_Olds, I r02, I r03, .map (some nb1_3)] 126, cMl I encSp nb1_3 r04, cBlk b_1 [v_b_Years, v_b_Olds, I b_First, I b_Last] 26, cMk ([])] R := H.back H2_ rfl
 clear H2_
 refine s_nil ?_
 refine WD.block ?_
 replace H : St w w95z [cOwn (α := Int) 3 (.slice none 0 0) ([]), cBlk nb0_6 [I r00] 3, cBlk nb1_7 [I r10] 3, cBlk nb2_8 [.pointer (some ⟨nb0_2, 0, none⟩)] 102, cBlk b_5 [.slice none 0 0] 27, cBlk b_4 [.func (.func 91) #[] #[]] 113, cBlk nb0_2 [v_b_Years, v_b_Olds, I r02, I r03, .map (some nb1_3)] 126, cMl I encSp nb1_3 r04, cBlk b_1 [v_b_Years, v_b_Olds, I b_First, I b_Last] 26, cMk ([])] R := H.nilOwn (α := Int) 3
 obtain ⟨t97z, hx98z, hM⟩ := M.e_bind hM
 refine WD.range (L := [cOwn (α := Int) 3 (.slice none 0 0) ([]), cBlk b_5 [(.slice none 0 0)] 27, cBlk nb0_6 [I r00] 3, cBlk nb1_7 [I r10] 3, cBlk nb2_8 [.pointer (some ⟨nb0_2, 0, none⟩)] 102, cBlk b_4 [.func (.func 91) #[] #[]] 113, cBlk nb0_2 [v_b_Years, v_b_Olds, I r02, I r03, .map (some nb1_3)] 126, cMl I encSp nb1_3 r04, cBlk b_1 [v_b_Years, v_b_Olds, I b_First, I b_Last] 26]) [.pointer (some ⟨nb0_6, 0, none⟩), .pointer (some ⟨nb1_7, 0, none⟩), .pointer (some ⟨nb2_8, 0, none⟩)] (H.pick [9, 0, 4, 1, 2, 3, 5, 6, 7, 8] (by decide) rfl) rfl cf90 ?_
 intro l99z D100z r101z w102z hr103z H
 have hYC : YieldC Try.prog ([cMk (D100z :: ([])), cBlk nb0_6 [I r00] 3, cBlk nb1_7 [I r10] 3, cBlk nb2_8 [.pointer (some ⟨nb0_2, 0, none⟩)] 102, cBlk b_4 [.func (.func 91) #[] #[]] 113, cBlk nb0_2 [v_b_Years, v_b_Olds, I r02, I r03, .map (some nb1_3)] 126, cMl I encSp nb1_3 r04, cBlk b_1 [v_b_Years, v_b_Olds, I b_First, I b_Last] 26] ++ R) arISpan (yJ l99z r101z (fun l Ls_ => ∃ (v_l : Value), Ls_ = [cOwn (α := Int) 3 v_l l, cBlk b_5 [v_l] 27]) (fun (_ : Unit) _ => False) (fun _ => .ret)) (.func (.yield l99z) #[] #[]) (M.yl zav) := by
  refine YieldC.mk2 hr103z (fun l Ls_ => ∃ (v_l : Value), Ls_ = [cOwn (α := Int) 3 v_l l, cBlk b_5 [v_l] 27]) (fun (_ : Unit) _ => False) (fun _ => .ret) zav (by rintro l _ h_; obtain ⟨_, rfl⟩ := h_; rfl) (fun _ _ h_ => h_.elim) rfl (arISpan_len rfl) ?_
  intro C_ vs_ x_ hA_
  obtain ⟨x, x2⟩ := x_
  obtain rfl := hA_
  intro w R hR_ Ls_ s_ r hY_ hM H
  skip
  obtain ⟨l, hs_eq_⟩ : ∃ y_, y_ = s_ := ⟨_, rfl⟩
  subst hs_eq_
  obtain ⟨v_l, rfl⟩ := hY_
  replace H : St w w [cOwn (α := Int) 3 v_l l, cBlk b_5 [v_l] 27, cMk (D100z :: ([])), cBlk nb0_6 [I r00] 3, cBlk nb1_7 [I r10] 3, cBlk nb2_8 [.pointer (some ⟨nb0_2, 0, none⟩)] 102, cBlk b_4 [.func (.func 91) #[] #[]] 113, cBlk nb0_2 [v_b_Years, v_b_Olds, I r02, I r03, .map (some nb1_3)] 126, cMl I encSp nb1_3 r04, cBlk b_1 [v_b_Years, v_b_Olds, I b_First, I b_Last] 26] R := H
  refine W.region rfl ?_
  refine t_alloc (cs := [I 0, I 0]) H Al35 rfl ?_
  intro b_9 w104z H
  refine t_st (k := 0) (b := b_9) (off := 0) (cs := [I 0, I 0]) (vs := [I x2.lo, I x2.hi]) (cs' := [I x2.lo, I x2.hi]) (v := .agg #[I x2.lo, I x2.hi]) (L' := [cBlk b_9 [I x2.lo, I x2.hi] 35, cOwn (α := Int) 3 v_l l, cBlk b_5 [v_l] 27, cMk (D100z :: ([])), cBlk nb0_6 [I r00] 3, cBlk nb1_7 [I r10] 3, cBlk nb2_8 [.pointer (some ⟨nb0_2, 0, none⟩)] 102, cBlk b_4 [.func (.func 91) #[] #[]] 113, cBlk nb0_2 [v_b_Years, v_b_Olds, I r02, I r03, .map (some nb1_3)] 126, cMl I encSp nb1_3 r04, cBlk b_1 [v_b_Years, v_b_Olds, I b_First, I b_Last] 26]) H rfl rfl rfl Sz35 rfl rfl rfl rfl rfl rfl ?_
  intro w105z H
  refine s_nil ?_
  refine ⟨rfl, [cBlk b_9 [I x2.lo, I x2.hi] 35], H.pick [0, 1, 2, 3, 4, 5, 6, 7, 8, 9, 10] (by decide) rfl, ?_⟩
  clear H hR_
  intro w R hR_ H
  replace hC_b_Years := hC_b_Years.sub hR_
  replace hC_b_Olds := hC_b_Olds.sub hR_
  replace hM : (zav l (x, x2)).Ends r := hM
  simp only [zav] at hM
  replace H : St w w [cBlk b_9 [I x2.lo, I x2.hi] 35, cOwn (α := Int) 3 v_l l, cBlk b_5 [v_l] 27, cMk (D100z :: ([])), cBlk nb0_6 [I r00] 3, cBlk nb1_7 [I r10] 3, cBlk nb2_8 [.pointer (some ⟨nb0_2, 0, none⟩)] 102, cBlk b_4 [.func (.func 91) #[] #[]] 113, cBlk nb0_2 [v_b_Years, v_b_Olds, I r02, I r03, .map (some nb1_3)] 126, cMl I encSp nb1_3 r04, cBlk b_1 [v_b_Years, v_b_Olds, I b_First, I b_Last] 26] R := H
  refine W.block ?_
  refine W.drawT (fun W => St w W [cBlk b_9 [I x2.lo, I x2.hi] 35, cMk (D100z :: ([])), cBlk nb0_6 [I r00] 3, cBlk nb1_7 [I r10] 3, cBlk nb2_8 [.pointer (some ⟨nb0_2, 0, none⟩)] 102, cBlk b_4 [.func (.func 91) #[] #[]] 113, cBlk nb0_2 [v_b_Years, v_b_Olds, I r02, I r03, .map (some nb1_3)] 126, cMl I encSp nb1_3 r04, cBlk b_1 [v_b_Years, v_b_Olds, I b_First, I b_Last] 26] R) (.q 1 (.q 2 (.q 3 (.l2 0 (.l 4 (.l 5 (.l 6 (.l 7 .nil)))) 4 (.l2 0 (.l 5 (.l 6 (.l 7 .nil))) 5 (.l 0 (.l 6 (.l 7 .nil)))))))) mixed (by decide +kernel) rfl ?_
  intro w106z hx_
  replace H : St w w106z [cBlk b_9 [I x2.lo, I x2.hi] 35, cOwn (α := Int) 3 v_l l, cBlk b_5 [v_l] 27, cMk (D100z :: ([])), cBlk nb0_6 [I r00] 3, cBlk nb1_7 [I r10] 3, cBlk nb2_8 [.pointer (some ⟨nb0_2, 0, none⟩)] 102, cBlk b_4 [.func (.func 91) #[] #[]] 113, cBlk nb0_2 [v_b_Years, v_b_Olds, I r02, I r03, .map (some nb1_3)] 126, cMl I encSp nb1_3 r04, cBlk b_1 [v_b_Years, v_b_Olds, I b_First, I b_Last] 26] R := H.ext hx_
  clear hx_
  refine ⟨(H.pick [0, 3, 4, 5, 6, 7, 8, 9, 10] (by decide) rfl), ?_⟩
  refine t_q rfl (fun w' H => x_fa (a := .pointer (some ⟨b_4, 0, none⟩)) (v := .pointer (some ⟨b_4, 0, none⟩)) rfl (fa_blk (o := 0) Fd113_0 Sz111)) ?_
  refine t_q rfl (fun w' H => x_ld (p := .pointer (some ⟨b_4, 0, none⟩)) (v := .func (.func 91) #[] #[]) rfl (ldb_sc Sc111 (H.blk (k := 5) rfl) rfl)) ?_
  refine t_q rfl (fun w' H => x_ld (p := .pointer (some ⟨b_9, 0, none⟩)) (v := .agg #[I x2.lo, I x2.hi]) rfl (ldb_ag (ds := [I x2.lo, I x2.hi]) Ag35 Sz35 (H.blk (k := 0) rfl) rfl rfl)) ?_
  refine t_l2 rfl rfl ?_ ?_
  ·skip
   refine s_val (x_ld (p := .pointer (some ⟨b_5, 0, none⟩)) (v := v_l) rfl (ldb_sc Sc27 (H.blk (k := 2) rfl) rfl)) ?_
   have hvc_q117z := Sl.cells (ownSl (H.get (k := 1) rfl))
   have hvo_q117z := Sl.oc (ownSl (H.get (k := 1) rfl))
   refine s_nil ⟨(H.pick [0, 3, 4, 5, 6, 7, 8, 9, 10] (by decide) rfl), ?_⟩
   refine t_l rfl ?_
   obtain ⟨r119z, hx118z, hM⟩ := M.e_bind hM
   refine s_callv (f := 91) rfl cf91 [.agg #[I x2.lo, I x2.hi]] rfl (zaM x2 hx118z _ (St.give (T := [cBlk b_9 [I x2.lo, I x2.hi] 35, cOwn (α := Int) 3 v_l l, cBlk b_5 [v_l] 27, cMk (D100z :: ([])), cBlk nb0_6 [I r00] 3, cBlk nb1_7 [I r10] 3, cBlk nb2_8 [.pointer (some ⟨nb0_2, 0, none⟩)] 102, cBlk b_4 [.func (.func 91) #[] #[]] 113, cBlk nb0_2 [v_b_Years, v_b_Olds, I r02, I r03, .map (some nb1_3)] 126, cMl I encSp nb1_3 r04, cBlk b_1 [v_b_Years, v_b_Olds, I b_First, I b_Last] 26]) H rfl)) ?_
   rintro vq w120z ⟨r2, hr121z, hvq, H2_⟩
   subst hr121z
   subst vq
   try dsimp only at hM
   replace H : St w w120z [cBlk b_9 [I x2.lo, I x2.hi] 35, cOwn (α := Int) 3 v_l l, cBlk b_5 [v_l] 27, cMk (D100z :: ([])), cBlk nb0_6 [I r00] 3, cBlk nb1_7 [I r10] 3, cBlk nb2_8 [.pointer (some ⟨nb0_2, 0, none⟩)] 102, cBlk b_4 [.func (.func 91) #[] #[]] 113, cBlk nb0_2 [v_b_Years, v_b_Olds, I r02, I r03, .map (some nb1_3)] 126, cMl I encSp nb1_3 r04, cBlk b_1 [v_b_Years, v_b_Olds, I b_First, I b_Last] 26] R := H.back H2_ rfl
   clear H2_
   refine s_nil ⟨(H.pick [0, 3, 4, 5, 6, 7, 8, 9, 10] (by decide) rfl), ?_⟩
   refine t_l rfl ?_
   refine t_bs (α := Int) T27 [I r2] [(r2 : Int)] H rfl (.cons rfl (Flat.rep_enc _ (r2 : Int)) <| .nil) rfl rfl rfl ?_
   intro v122z w123z H
   have hvc_q124z := Sl.cells (ownSl (H.get (k := 0) rfl))
   have hvo_q124z := Sl.oc (ownSl (H.get (k := 0) rfl))
   refine s_nil ⟨(H.pick [1, 4, 5, 6, 7, 8, 9, 10, 11] (by decide) rfl), ?_⟩
   refine t_l rfl ?_
   obtain ⟨sd125z, hM⟩ := M.e_grd hM
   simp only [Bool.and_eq_true, decide_eq_true_eq] at sd125z
   refine t_app (α := Int) (k := 2) (l := l) (l2 := [(r2 : Int)]) (l' := l ++ ([(r2 : Int)])) (vy := v122z) T27 rfl H rfl rfl rfl (ownSl (H.get (k := 0) rfl)) (ownLe _ (H.get (k := 0) rfl)) (rfl) (by first | omega | (simp only [List.length_nil] at *; omega)) ?_
   intro v126z w127z H
   replace H : St w w127z [cOwn (α := Int) 3 v122z ([(r2 : Int)]), cBlk b_9 [I x2.lo, I x2.hi] 35, cOwn (α := Int) 3 v126z (l ++ ([(r2 : Int)])), cBlk b_5 [v_l] 27, cMk (D100z :: ([])), cBlk nb0_6 [I r00] 3, cBlk nb1_7 [I r10] 3, cBlk nb2_8 [.pointer (some ⟨nb0_2, 0, none⟩)] 102, cBlk b_4 [.func (.func 91) #[] #[]] 113, cBlk nb0_2 [v_b_Years, v_b_Olds, I r02, I r03, .map (some nb1_3)] 126, cMl I encSp nb1_3 r04, cBlk b_1 [v_b_Years, v_b_Olds, I b_First, I b_Last] 26] R := H
   have hvc_q128z := Sl.cells (ownSl (H.get (k := 2) rfl))
   have hvo_q128z := Sl.oc (ownSl (H.get (k := 2) rfl))
   refine s_nil ⟨(H.pick [1, 4, 5, 6, 7, 8, 9, 10, 11] (by decide) rfl), ?_⟩
   refine t_l rfl ?_
   refine t_st (k := 3) (b := b_5) (off := 0) (cs := [v_l]) (vs := [v126z]) (cs' := [v126z]) (v := v126z) (L' := [cOwn (α := Int) 3 v122z ([(r2 : Int)]), cBlk b_9 [I x2.lo, I x2.hi] 35, cOwn (α := Int) 3 v126z (l ++ ([(r2 : Int)])), cBlk b_5 [v126z] 27, cMk (D100z :: ([])), cBlk nb0_6 [I r00] 3, cBlk nb1_7 [I r10] 3, cBlk nb2_8 [.pointer (some ⟨nb0_2, 0, none⟩)] 102, cBlk b_4 [.func (.func 91) #[] #[]] 113, cBlk nb0_2 [v_b_Years, v_b_Olds, I r02, I r03, .map (some nb1_3)] 126, cMl I encSp nb1_3 r04, cBlk b_1 [v_b_Years, v_b_Olds, I b_First, I b_Last] 26]) H rfl rfl rfl Sz27 (Sl.cells (ownSl (H.get (k := 2) rfl))) rfl rfl (by simp only [List.all_cons, List.all_nil, Bool.true_and, Bool.and_true, Sl.oc (ownSl (H.get (k := 2) rfl))]; try rfl) rfl rfl ?_
   intro w129z H
   refine s_nil ⟨(H.pick [1, 4, 5, 6, 7, 8, 9, 10, 11] (by decide) rfl), ?_⟩
   refine t_nil ?_
   exact ⟨l ++ ([(r2 : Int)]), [cOwn (α := Int) 3 v126z (l ++ ([(r2 : Int)])), cBlk b_5 [v126z] 27], (M.e_pure hM).symm, ⟨v126z, rfl⟩, H.pick [2, 3, 4, 5, 6, 7, 8, 9, 10, 11] (by decide) rfl⟩
  skip
  obtain ⟨r131z, hx130z, hM⟩ := M.e_bind hM
  refine s_callv (f := 91) rfl cf91 [.agg #[I x2.lo, I x2.hi]] rfl (zaM x2 hx130z _ (St.give (T := [cBlk b_9 [I x2.lo, I x2.hi] 35, cOwn (α := Int) 3 v_l l, cBlk b_5 [v_l] 27, cMk (D100z :: ([])), cBlk nb0_6 [I r00] 3, cBlk nb1_7 [I r10] 3, cBlk nb2_8 [.pointer (some ⟨nb0_2, 0, none⟩)] 102, cBlk b_4 [.func (.func 91) #[] #[]] 113, cBlk nb0_2 [v_b_Years, v_b_Olds, I r02, I r03, .map (some nb1_3)] 126, cMl I encSp nb1_3 r04, cBlk b_1 [v_b_Years, v_b_Olds, I b_First, I b_Last] 26]) H rfl)) ?_
  rintro vq w132z ⟨r2, hr133z, hvq, H2_⟩
  subst hr133z
  subst vq
  try dsimp only at hM
  replace H : St w w132z [cBlk b_9 [I x2.lo, I x2.hi] 35, cOwn (α := Int) 3 v_l l, cBlk b_5 [v_l] 27, cMk (D100z :: ([])), cBlk nb0_6 [I r00] 3, cBlk nb1_7 [I r10] 3, cBlk nb2_8 [.pointer (some ⟨nb0_2, 0, none⟩)] 102, cBlk b_4 [.func (.func 91) #[] #[]] 113, cBlk nb0_2 [v_b_Years, v_b_Olds, I r02, I r03, .map (some nb1_3)] 126, cMl I encSp nb1_3 r04, cBlk b_1 [v_b_Years, v_b_Olds, I b_First, I b_Last] 26] R := H.back H2_ rfl
  clear H2_
  have hvc_q134z := Sl.cells (ownSl (H.get (k := 1) rfl))
  have hvo_q134z := Sl.oc (ownSl (H.get (k := 1) rfl))
  refine s_nil ⟨(H.pick [0, 3, 4, 5, 6, 7, 8, 9, 10] (by decide) rfl), ?_⟩
  obtain ⟨sd137z, hM⟩ := M.e_grd hM
  simp only [Bool.and_eq_true, decide_eq_true_eq] at sd137z
  refine t_l2 rfl rfl ?_ ?_
  ·skip
   refine s_val (x_ld (p := .pointer (some ⟨b_5, 0, none⟩)) (v := v_l) rfl (ldb_sc Sc27 (H.blk (k := 2) rfl) rfl)) ?_
   refine s_nil ⟨(H.pick [0, 3, 4, 5, 6, 7, 8, 9, 10] (by decide) rfl), ?_⟩
   refine t_l rfl ?_
   refine t_bs (α := Int) T27 [I r2] [(r2 : Int)] H rfl (.cons rfl (Flat.rep_enc _ (r2 : Int)) <| .nil) rfl rfl rfl ?_
   intro v141z w142z H
   have hvc_q143z := Sl.cells (ownSl (H.get (k := 0) rfl))
   have hvo_q143z := Sl.oc (ownSl (H.get (k := 0) rfl))
   refine s_nil ⟨(H.pick [1, 4, 5, 6, 7, 8, 9, 10, 11] (by decide) rfl), ?_⟩
   refine t_l rfl ?_
   refine t_app (α := Int) (k := 2) (l := l) (l2 := [(r2 : Int)]) (l' := l ++ ([(r2 : Int)])) (vy := v141z) T27 rfl H rfl rfl rfl (ownSl (H.get (k := 0) rfl)) (ownLe _ (H.get (k := 0) rfl)) (rfl) (by first | omega | (simp only [List.length_nil] at *; omega)) ?_
   intro v144z w145z H
   replace H : St w w145z [cOwn (α := Int) 3 v141z ([(r2 : Int)]), cBlk b_9 [I x2.lo, I x2.hi] 35, cOwn (α := Int) 3 v144z (l ++ ([(r2 : Int)])), cBlk b_5 [v_l] 27, cMk (D100z :: ([])), cBlk nb0_6 [I r00] 3, cBlk nb1_7 [I r10] 3, cBlk nb2_8 [.pointer (some ⟨nb0_2, 0, none⟩)] 102, cBlk b_4 [.func (.func 91) #[] #[]] 113, cBlk nb0_2 [v_b_Years, v_b_Olds, I r02, I r03, .map (some nb1_3)] 126, cMl I encSp nb1_3 r04, cBlk b_1 [v_b_Years, v_b_Olds, I b_First, I b_Last] 26] R := H
   have hvc_q146z := Sl.cells (ownSl (H.get (k := 2) rfl))
   have hvo_q146z := Sl.oc (ownSl (H.get (k := 2) rfl))
   refine s_nil ⟨(H.pick [1, 4, 5, 6, 7, 8, 9, 10, 11] (by decide) rfl), ?_⟩
   refine t_l rfl ?_
   refine t_st (k := 3) (b := b_5) (off := 0) (cs := [v_l]) (vs := [v144z]) (cs' := [v144z]) (v := v144z) (L' := [cOwn (α := Int) 3 v141z ([(r2 : Int)]), cBlk b_9 [I x2.lo, I x2.hi] 35, cOwn (α := Int) 3 v144z (l ++ ([(r2 : Int)])), cBlk b_5 [v144z] 27, cMk (D100z :: ([])), cBlk nb0_6 [I r00] 3, cBlk nb1_7 [I r10] 3, cBlk nb2_8 [.pointer (some ⟨nb0_2, 0, none⟩)] 102, cBlk b_4 [.func (.func 91) #[] #[]] 113, cBlk nb0_2 [v_b_Years, v_b_Olds, I r02, I r03, .map (some nb1_3)] 126, cMl I encSp nb1_3 r04, cBlk b_1 [v_b_Years, v_b_Olds, I b_First, I b_Last] 26]) H rfl rfl rfl Sz27 (Sl.cells (ownSl (H.get (k := 2) rfl))) rfl rfl (by simp only [List.all_cons, List.all_nil, Bool.true_and, Bool.and_true, Sl.oc (ownSl (H.get (k := 2) rfl))]; try rfl) rfl rfl ?_
   intro w147z H
   refine s_nil ⟨(H.pick [1, 4, 5, 6, 7, 8, 9, 10, 11] (by decide) rfl), ?_⟩
   refine t_nil ?_
   exact ⟨l ++ ([(r2 : Int)]), [cOwn (α := Int) 3 v144z (l ++ ([(r2 : Int)])), cBlk b_5 [v144z] 27], (M.e_pure hM).symm, ⟨v144z, rfl⟩, H.pick [2, 3, 4, 5, 6, 7, 8, 9, 10, 11] (by decide) rfl⟩
  skip
  refine t_bs (α := Int) T27 [I r2] [(r2 : Int)] H rfl (.cons rfl (Flat.rep_enc _ (r2 : Int)) <| .nil) rfl rfl rfl ?_
  intro v148z w149z H
  have hvc_q150z := Sl.cells (ownSl (H.get (k := 0) rfl))
  have hvo_q150z := Sl.oc (ownSl (H.get (k := 0) rfl))
  refine s_nil ⟨(H.pick [1, 4, 5, 6, 7, 8, 9, 10, 11] (by decide) rfl), ?_⟩
  refine t_l rfl ?_
  refine s_val (x_ld (p := .pointer (some ⟨b_5, 0, none⟩)) (v := v_l) rfl (ldb_sc Sc27 (H.blk (k := 3) rfl) rfl)) ?_
  refine s_nil ⟨(H.pick [1, 4, 5, 6, 7, 8, 9, 10, 11] (by decide) rfl), ?_⟩
  refine t_l rfl ?_
  refine t_app (α := Int) (k := 2) (l := l) (l2 := [(r2 : Int)]) (l' := l ++ ([(r2 : Int)])) (vy := v148z) T27 rfl H rfl rfl rfl (ownSl (H.get (k := 0) rfl)) (ownLe _ (H.get (k := 0) rfl)) (rfl) (by first | omega | (simp only [List.length_nil] at *; omega)) ?_
  intro v151z w152z H
  replace H : St w w152z [cOwn (α := Int) 3 v148z ([(r2 : Int)]), cBlk b_9 [I x2.lo, I x2.hi] 35, cOwn (α := Int) 3 v151z (l ++ ([(r2 : Int)])), cBlk b_5 [v_l] 27, cMk (D100z :: ([])), cBlk nb0_6 [I r00] 3, cBlk nb1_7 [I r10] 3, cBlk nb2_8 [.pointer (some ⟨nb0_2, 0, none⟩)] 102, cBlk b_4 [.func (.func 91) #[] #[]] 113, cBlk nb0_2 [v_b_Years, v_b_Olds, I r02, I r03, .map (some nb1_3)] 126, cMl I encSp nb1_3 r04, cBlk b_1 [v_b_Years, v_b_Olds, I b_First, I b_Last] 26] R := H
  have hvc_q153z := Sl.cells (ownSl (H.get (k := 2) rfl))
  have hvo_q153z := Sl.oc (ownSl (H.get (k := 2) rfl))
  refine s_nil ⟨(H.pick [1, 4, 5, 6, 7, 8, 9, 10, 11] (by decide) rfl), ?_⟩
  refine t_l rfl ?_
  refine t_st (k := 3) (b := b_5) (off := 0) (cs := [v_l]) (vs := [v151z]) (cs' := [v151z]) (v := v151z) (L' := [cOwn (α := Int) 3 v148z ([(r2 : Int)]), cBlk b_9 [I x2.lo, I x2.hi] 35, cOwn (α := Int) 3 v151z (l ++ ([(r2 : Int)])), cBlk b_5 [v151z] 27, cMk (D100z :: ([])), cBlk nb0_6 [I r00] 3, cBlk nb1_7 [I r10] 3, cBlk nb2_8 [.pointer (some ⟨nb0_2, 0, none⟩)] 102, cBlk b_4 [.func (.func 91) #[] #[]] 113, cBlk nb0_2 [v_b_Years, v_b_Olds, I r02, I r03, .map (some nb1_3)] 126, cMl I encSp nb1_3 r04, cBlk b_1 [v_b_Years, v_b_Olds, I b_First, I b_Last] 26]) H rfl rfl rfl Sz27 (Sl.cells (ownSl (H.get (k := 2) rfl))) rfl rfl (by simp only [List.all_cons, List.all_nil, Bool.true_and, Bool.and_true, Sl.oc (ownSl (H.get (k := 2) rfl))]; try rfl) rfl rfl ?_
  intro w154z H
  refine s_nil ⟨(H.pick [1, 4, 5, 6, 7, 8, 9, 10, 11] (by decide) rfl), ?_⟩
  refine t_nil ?_
  exact ⟨l ++ ([(r2 : Int)]), [cOwn (α := Int) 3 v151z (l ++ ([(r2 : Int)])), cBlk b_5 [v151z] 27], (M.e_pure hM).symm, ⟨v151z, rfl⟩, H.pick [2, 3, 4, 5, 6, 7, 8, 9, 10, 11] (by decide) rfl⟩
 replace H : St w w102z (cAll (cObj l99z (.loop r101z) :: [cOwn (α := Int) 3 (.slice none 0 0) ([]), cBlk b_5 [(.slice none 0 0)] 27]) :: [cMk (D100z :: ([])), cBlk nb0_6 [I r00] 3, cBlk nb1_7 [I r10] 3, cBlk nb2_8 [.pointer (some ⟨nb0_2, 0, none⟩)] 102, cBlk b_4 [.func (.func 91) #[] #[]] 113, cBlk nb0_2 [v_b_Years, v_b_Olds, I r02, I r03, .map (some nb1_3)] 126, cMl I encSp nb1_3 r04, cBlk b_1 [v_b_Years, v_b_Olds, I b_First, I b_Last] 26]) R := St.bundleB (A := cObj l99z (.loop r101z) :: [cOwn (α := Int) 3 (.slice none 0 0) ([]), cBlk b_5 [(.slice none 0 0)] 27]) (T := [cMk (D100z :: ([])), cBlk nb0_6 [I r00] 3, cBlk nb1_7 [I r10] 3, cBlk nb2_8 [.pointer (some ⟨nb0_2, 0, none⟩)] 102, cBlk b_4 [.func (.func 91) #[] #[]] 113, cBlk nb0_2 [v_b_Years, v_b_Olds, I r02, I r03, .map (some nb1_3)] 126, cMl I encSp nb1_3 r04, cBlk b_1 [v_b_Years, v_b_Olds, I b_First, I b_Last] 26]) rfl (H.pick [0, 2, 3, 1, 4, 5, 6, 7, 8, 9, 10] (by decide) rfl)
 refine (zaj (M.yl zav) (.inl ([])) r00 r10 b_Years b_Olds r02 r03 r04 hYC ⟨_, rfl, ⟨(.slice none 0 0), rfl⟩⟩ (Has.here (k := 1) rfl) (Has.here (k := 2) rfl) (hC_b_Years.app _) hs_b_Years (hC_b_Olds.app _) hs_b_Olds (Has.here (k := 6) rfl) (Has.here (k := 5) rfl) (Has.here (k := 3) rfl) hx98z _ (St.give (A := [cAll (cObj l99z (.loop r101z) :: [cOwn (α := Int) 3 (.slice none 0 0) ([]), cBlk b_5 [(.slice none 0 0)] 27])]) (T := [cMk (D100z :: ([])), cBlk nb0_6 [I r00] 3, cBlk nb1_7 [I r10] 3, cBlk nb2_8 [.pointer (some ⟨nb0_2, 0, none⟩)] 102, cBlk b_4 [.func (.func 91) #[] #[]] 113, cBlk nb0_2 [v_b_Years, v_b_Olds, I r02, I r03, .map (some nb1_3)] 126, cMl I encSp nb1_3 r04, cBlk b_1 [v_b_Years, v_b_Olds, I b_First, I b_Last] 26]) H rfl)).mono ?_
 rintro vq w155z ⟨t159z, Ls157z, hq160z, hvq, H2_, hY158z⟩
 subst hq160z
 replace H := H.back H2_ rfl
 clear H2_ hYC
 rcases t159z with l | _
 ·try dsimp only at hM
  obtain ⟨_, rfl, v_l, rfl⟩ := hY158z
  refine ⟨_, [cOwn (α := Int) 3 v_l l, cBlk b_5 [v_l] 27, cBlk nb0_6 [I r00] 3, cBlk nb1_7 [I r10] 3, cBlk nb2_8 [.pointer (some ⟨nb0_2, 0, none⟩)] 102, cBlk b_4 [.func (.func 91) #[] #[]] 113, cBlk nb0_2 [v_b_Years, v_b_Olds, I r02, I r03, .map (some nb1_3)] 126, cMl I encSp nb1_3 r04, cBlk b_1 [v_b_Years, v_b_Olds, I b_First, I b_Last] 26], H.unbundle.pick [0, 3, 1, 2, 4, 5, 6, 7, 8, 9, 10] (by decide) rfl, hr103z.nb, ?_⟩
  intro w156z H
  rw [hr103z.pd]
  replace H : St w w156z [cMk (D100z :: ([])), cOwn (α := Int) 3 v_l l, cBlk b_5 [v_l] 27, cBlk nb0_6 [I r00] 3, cBlk nb1_7 [I r10] 3, cBlk nb2_8 [.pointer (some ⟨nb0_2, 0, none⟩)] 102, cBlk b_4 [.func (.func 91) #[] #[]] 113, cBlk nb0_2 [v_b_Years, v_b_Olds, I r02, I r03, .map (some nb1_3)] 126, cMl I encSp nb1_3 r04, cBlk b_1 [v_b_Years, v_b_Olds, I b_First, I b_Last] 26] R := H
  try simp only []
  refine WD.seq ?_
  refine WD.of ?_
  refine W.region rfl ?_
  refine s_val (x_ld (p := .pointer (some ⟨b_5, 0, none⟩)) (v := v_l) rfl (ldb_sc Sc27 (H.blk (k := 2) rfl) rfl)) ?_
  refine s_val (x_as (v := v_l) rfl) ?_
  refine s_val (x_as (v := I 0) rfl) ?_
  refine s_nil ?_
  refine WD.of ?_
  refine W.ret ?_
  refine bodyD_r (H.pick [0, 1, 2, 3, 4, 5, 6, 7, 8, 9] (by decide) rfl) ?_
  intro w161z H
  replace H : St w w161z [cOwn (α := Int) 3 v_l l, cBlk b_5 [v_l] 27, cBlk nb0_6 [I r00] 3, cBlk nb1_7 [I r10] 3, cBlk nb2_8 [.pointer (some ⟨nb0_2, 0, none⟩)] 102, cBlk b_4 [.func (.func 91) #[] #[]] 113, cBlk nb0_2 [v_b_Years, v_b_Olds, I r02, I r03, .map (some nb1_3)] 126, cMl I encSp nb1_3 r04, cBlk b_1 [v_b_Years, v_b_Olds, I b_First, I b_Last] 26] R := H
  have hr_ := M.e_pure hM
  exact ⟨_, resE_tmp2 rfl, ⟨l, 0, v_l, hr_, rfl, (H.pick [0] (by decide) rfl)⟩⟩
 obtain ⟨_, _, h_⟩ := hY158z; exact h_.elim

end Go.Proofs.Ytcgalcbkkijkhaa
end
section
set_option maxRecDepth 100000
set_option maxHeartbeats 16000000
namespace Go.Proofs.Ytcgalcbkkijkhaa
open Go Go.Nm
end Go.Proofs.Ytcgalcbkkijkhaa
end
namespace Go.Nm
namespace Bk
/-- What the years from one on can have. -/
def kl (ys : List Yr) (os : List Old10) (a : Int) (n : Nat) : List Span := (List.range n).map fun (i : Nat) => kn ys os (a + (i : Int))
theorem kl_succ (ys : List Yr) (os : List Old10) (a : Int) (n : Nat) : kl ys os a (n + 1) = kl ys os a n ++ [kn ys os (a + (n : Int))] := by
  unfold kl
  rw [List.range_succ, List.map_append]
  rfl
theorem kl_len (ys : List Yr) (os : List Old10) (a : Int) (n : Nat) : (kl ys os a n).length = n := by unfold kl; rw [List.length_map, List.length_range]
theorem kl_at (ys : List Yr) (os : List Old10) (a : Int) {n i : Nat} (h : i < n) : (kl ys os a n)[i]? = some (kn ys os (a + (i : Int))) := by
  unfold kl
  rw [List.getElem?_map, List.getElem?_range h]
  rfl
theorem kl_mem {ys : List Yr} {os : List Old10} {a : Int} {n : Nat} {s : Span} (h : s ∈ kl ys os a n) : ∃ i : Nat, i < n /\ s = kn ys os (a + (i : Int)) := by
  unfold kl at h
  obtain ⟨i, hi, rfl⟩ := List.mem_map.1 h
  exact ⟨i, List.mem_range.1 hi, rfl⟩
def In (f l fr to : Int) : Prop := f <= fr /\ fr <= to /\ to <= l
/-- The first error of a book, two years, a number, and that no truth can be. -/
def WrE (ys : List Yr) (os : List Old10) (f l fr to n a b e : Int) : Prop := (chkB ys os f l ≠ 0 /\ e = chkB ys os f l) ∨ (chkB ys os f l = 0 /\ ¬ In f l fr to /\ e = 2) ∨ (chkB ys os f l = 0 /\ In f l fr to /\ ¬ (a <= n /\ n <= b) /\ e = 4) ∨
  (chkB ys os f l = 0 /\ In f l fr to /\ (a <= n /\ n <= b) /\ ¬ Fine ys os f l /\ e = 6) ∨ (chkB ys os f l = 0 /\ In f l fr to /\ (a <= n /\ n <= b) /\ Fine ys os f l /\ e = 0)
theorem WrE.uniq {ys : List Yr} {os : List Old10} {f l fr to n a b e e' : Int} (h : WrE ys os f l fr to n a b e) (k : WrE ys os f l fr to n a b e') : e = e' := by
  rcases h with ⟨h1, rfl⟩ | ⟨h1, h2, rfl⟩ | ⟨h1, h2, h3, rfl⟩ | ⟨h1, h2, h3, h4, rfl⟩ | ⟨h1, h2, h3, h4, rfl⟩ <;> rcases k with ⟨k1, rfl⟩ | ⟨k1, k2, rfl⟩ | ⟨k1, k2, k3, rfl⟩ | ⟨k1, k2, k3, k4, rfl⟩ | ⟨k1, k2, k3, k4, rfl⟩ <;> first | rfl | contradiction
theorem WrE.ok {ys : List Yr} {os : List Old10} {f l fr to n a b : Int} (h : WrE ys os f l fr to n a b 0) : chkB ys os f l = 0 /\ In f l fr to /\ (a <= n /\ n <= b) /\ Fine ys os f l := by
  rcases h with ⟨h1, h2⟩ | ⟨h1, h2, h3⟩ | ⟨h1, h2, h3, h4⟩ | ⟨h1, h2, h3, h4, h5⟩ | ⟨h1, h2, h3, h4, h5⟩
  · exact absurd h2.symm h1
  · cases h3
  · cases h4
  · cases h5
  · exact ⟨h1, h2, h3, h4⟩
theorem WrE.last {ys : List Yr} {os : List Old10} {f l fr to n a b b' e : Int} (h : WrE ys os f l fr to n a b e) (hb : chkB ys os f l = 0 -> In f l fr to -> b = b') : WrE ys os f l fr to n a b' e := by
  rcases h with ⟨h1, h2⟩ | ⟨h1, h2, h3⟩ | ⟨h1, h2, h3, h4⟩ | ⟨h1, h2, h3, h4, h5⟩ | ⟨h1, h2, h3, h4, h5⟩
  · exact .inl ⟨h1, h2⟩
  · exact .inr (.inl ⟨h1, h2, h3⟩)
  · exact .inr (.inr (.inl ⟨h1, h2, by rw [← hb h1 h2]; exact h3, h4⟩))
  · exact .inr (.inr (.inr (.inl ⟨h1, h2, by rw [← hb h1 h2]; exact h3, h4, h5⟩)))
  · exact .inr (.inr (.inr (.inr ⟨h1, h2, by rw [← hb h1 h2]; exact h3, h4, h5⟩)))
def many (p : Span -> Bool) (ys : List Yr) (os : List Old10) (fr to : Int) : Int := ((kl ys os fr (Int.toNat (to + 1 - fr))).countP p : Nat)
def lop (x : Int) (s : Span) : Bool := decide (x <= s.lo)
def hip (x : Int) (s : Span) : Bool := decide (x <= s.hi)
def PaE (ys : List Yr) (os : List Old10) (f l fr to st : Int) (r : Int × Int × Int) : Prop := (r.2.2 ≠ 0 /\ WrE ys os f l fr to st 0 2000 r.2.2 /\ r.1 = 0 /\ r.2.1 = 0) ∨ (r.2.2 = 0 /\ WrE ys os f l fr to st 0 2000 0 /\ r.1 = many (lop st) ys os fr to /\ r.2.1 = many (hip st) ys os fr to)
theorem PaE.wr {ys : List Yr} {os : List Old10} {f l fr to st : Int} {r : Int × Int × Int} (h : PaE ys os f l fr to st r) : WrE ys os f l fr to st 0 2000 r.2.2 := by
  rcases h with ⟨h1, h2, h3⟩ | ⟨h1, h2, h3⟩
  · exact h2
  · rw [h1]; exact h2
theorem PaE.uniq {ys : List Yr} {os : List Old10} {f l fr to st : Int} {r s : Int × Int × Int} (h : PaE ys os f l fr to st r) (k : PaE ys os f l fr to st s) : r = s := by
  have e := h.wr.uniq k.wr
  obtain ⟨r1, r2, r3⟩ := r
  obtain ⟨s1, s2, s3⟩ := s
  dsimp only at e
  subst e
  rcases h with ⟨h1, h2, h3, h4⟩ | ⟨h1, h2, h3, h4⟩ <;> rcases k with ⟨k1, k2, k3, k4⟩ | ⟨k1, k2, k3, k4⟩ <;> dsimp only at h1 h3 h4 k1 k3 k4
  · rw [h3, h4, k3, k4]
  · exact absurd k1 h1
  · exact absurd h1 k1
  · rw [h3, h4, k3, k4]
def ofs (most : Bool) (s : Span) : Int := if most = true then s.hi else s.lo
def ToE (ys : List Yr) (os : List Old10) (f l fr to st : Int) (most : Bool) (r : List Int × Int) : Prop := (r.2 ≠ 0 /\ WrE ys os f l fr to st 0 2000 r.2 /\ r.1 = []) ∨ (r.2 = 0 /\ WrE ys os f l fr to st 0 2000 0 /\ r.1 = (kl ys os f (Int.toNat (l + 1 - f))).map (ofs most))
/-- The highest number that so many have. -/
def Top (L : List Int) (t v : Int) : Prop := 0 <= v /\ v <= 2000 /\ t <= (L.countP (fun x => decide (v <= x)) : Nat) /\ ((L.countP (fun x => decide (v + 1 <= x)) : Nat) : Int) < t
theorem cnt_mono {L : List Int} {v w : Int} (h : v <= w) : L.countP (fun x => decide (w <= x)) <= L.countP (fun x => decide (v <= x)) := by
  refine List.countP_mono_left fun x _ hx => ?_
  have := of_decide_eq_true hx
  exact decide_eq_true (by omega)
theorem Top.uniq {L : List Int} {t v w : Int} (h : Top L t v) (k : Top L t w) : v = w := by
  obtain ⟨h1, h2, h3, h4⟩ := h
  obtain ⟨k1, k2, k3, k4⟩ := k
  rcases Int.lt_trichotomy v w with e | e | e
  · have := cnt_mono (L := L) (v := v + 1) (w := w) (by omega)
    omega
  · exact e
  · have := cnt_mono (L := L) (v := w + 1) (w := v) (by omega)
    omega
theorem top_sort {L : List Int} (hL : ∀ x ∈ L, 0 <= x /\ x <= 2000) {t : Nat} (h1 : 1 <= t) (h2 : t <= L.length) : Top L t ((isort L).getD (L.length - t) 0) := by
  have hp := isort_perm L
  have hlen : (isort L).length = L.length := hp.length_eq
  have ha := isort_asc L
  have hm : ∀ x ∈ isort L, 0 <= x /\ x <= 2000 := fun x hx => hL x (hp.mem_iff.1 hx)
  unfold Top
  rw [← hp.countP_eq, ← hp.countP_eq]
  generalize isort L = s at *
  have hk : L.length - t < s.length := by omega
  have e : s.getD (L.length - t) 0 = s[L.length - t] := by rw [List.getD_eq_getElem?_getD, List.getElem?_eq_getElem hk, Option.getD_some]
  rw [e]
  have hv := hm s[L.length - t] (List.getElem_mem hk)
  refine ⟨hv.1, hv.2, ?_, ?_⟩
  · have e1 : s.countP (fun x => decide (s[L.length - t] <= x)) = (s.take (L.length - t)).countP (fun x => decide (s[L.length - t] <= x)) + (s.drop (L.length - t)).countP (fun x => decide (s[L.length - t] <= x)) := by
      rw [← List.countP_append, List.take_append_drop]
    have e2 : (s.drop (L.length - t)).countP (fun x => decide (s[L.length - t] <= x)) = (s.drop (L.length - t)).length := by
      rw [List.countP_eq_length]
      intro x hx
      obtain ⟨i, hi, rfl⟩ := List.getElem_of_mem hx
      rw [List.length_drop] at hi
      rw [List.getElem_drop]
      refine decide_eq_true ?_
      by_cases h0 : i = 0
      · subst h0; exact Int.le_refl _
      · exact List.pairwise_iff_getElem.1 ha (L.length - t) (L.length - t + i) hk (by omega) (by omega)
    rw [List.length_drop] at e2
    omega
  · have e1 : s.countP (fun x => decide (s[L.length - t] + 1 <= x)) = (s.take (L.length - t + 1)).countP (fun x => decide (s[L.length - t] + 1 <= x)) + (s.drop (L.length - t + 1)).countP (fun x => decide (s[L.length - t] + 1 <= x)) := by
      rw [← List.countP_append, List.take_append_drop]
    have e2 : (s.take (L.length - t + 1)).countP (fun x => decide (s[L.length - t] + 1 <= x)) = 0 := by
      rw [List.countP_eq_zero]
      intro x hx
      obtain ⟨i, hi, rfl⟩ := List.getElem_of_mem hx
      rw [List.length_take] at hi
      rw [List.getElem_take, decide_eq_true_eq]
      by_cases h0 : i = L.length - t
      · subst h0; omega
      · have := List.pairwise_iff_getElem.1 ha i (L.length - t) (by omega) hk (by omega)
        omega
    have e3 := List.countP_le_length (p := fun x => decide (s[L.length - t] + 1 <= x)) (l := s.drop (L.length - t + 1))
    rw [List.length_drop] at e3
    omega
def ReE (ys : List Yr) (os : List Old10) (f l fr to t : Int) (r : Int × Int × Int) : Prop := (r.2.2 ≠ 0 /\ WrE ys os f l fr to t 1 (to - fr + 1) r.2.2 /\ r.1 = 0 /\ r.2.1 = 0) ∨
  (r.2.2 = 0 /\ WrE ys os f l fr to t 1 (to - fr + 1) 0 /\ Top ((kl ys os fr (Int.toNat (to + 1 - fr))).map Span.lo) t r.1 /\ Top ((kl ys os fr (Int.toNat (to + 1 - fr))).map Span.hi) t r.2.1)
theorem ReE.wr {ys : List Yr} {os : List Old10} {f l fr to t : Int} {r : Int × Int × Int} (h : ReE ys os f l fr to t r) : WrE ys os f l fr to t 1 (to - fr + 1) r.2.2 := by
  rcases h with ⟨h1, h2, h3⟩ | ⟨h1, h2, h3⟩
  · exact h2
  · rw [h1]; exact h2
theorem ReE.uniq {ys : List Yr} {os : List Old10} {f l fr to t : Int} {r s : Int × Int × Int} (h : ReE ys os f l fr to t r) (k : ReE ys os f l fr to t s) : r = s := by
  have e := h.wr.uniq k.wr
  obtain ⟨r1, r2, r3⟩ := r
  obtain ⟨s1, s2, s3⟩ := s
  dsimp only at e
  subst e
  rcases h with ⟨h1, h2, h3, h4⟩ | ⟨h1, h2, h3, h4⟩ <;> rcases k with ⟨k1, k2, k3, k4⟩ | ⟨k1, k2, k3, k4⟩ <;> dsimp only at h1 h3 h4 k1 k3 k4
  · rw [h3, h4, k3, k4]
  · exact absurd k1 h1
  · exact absurd h1 k1
  · rw [h3.uniq k3, h4.uniq k4]
end Bk
end Go.Nm
namespace Go.Proofs.Ytcgalcbkkijkhaa
open Go Go.Nm
variable {ys : List Yr} {os : List Old10} {f l : Int}
theorem between_out (hy : ys.length <= 1000000) (ho : os.length <= 1000000) (fr to n a b : Int) : (zaC ys os f l fr to n a b).Out (fun r => match r with | .inl e => e ≠ 0 /\ Bk.WrE ys os f l fr to n a b e | .inr (f', l', m, z) => f' = f /\ l' = l /\ z = 0 /\ Bk.WrE ys os f l fr to n a b 0 /\ Knows ys os f l m) := by
  unfold zaC
  by_cases h0 : Bk.chkB ys os f l = 0
  · have h := Bk.chk_ok h0
    obtain ⟨m, g1, hm⟩ := opened_ok hy ho h0
    refine M.o_bindE g1 (M.o_f rfl (M.o_bindE (in_ends _ _ _) (M.o_bindE (a := (decide (f <= fr) && decide (fr <= to)) && (decide (f <= to) && decide (to <= l))) (M.i_opt (fun h => by rw [Bool.not_not] at h; rw [h]; exact in_ends _ _ _) (fun h => by rw [Bool.not_not] at h; rw [h]; rfl)) (M.o_if (fun hb => ?_) (fun hb => ?_)))))
    · have hI : ¬ Bk.In f l fr to := by
        rintro ⟨i1, i2, i3⟩
        rw [decide_eq_true i1, decide_eq_true i2, decide_eq_true i3, decide_eq_true (show f <= to by omega)] at hb
        cases hb
      exact M.o_pure ⟨by decide, .inr (.inl ⟨h0, hI, rfl⟩)⟩
    · have hI : Bk.In f l fr to := by
        rw [Bool.or_eq_false_iff, Bool.not_eq_false', Bool.not_eq_false'] at hb
        have := hb.2
        rw [Bool.and_eq_true, Bool.and_eq_true, Bool.and_eq_true, decide_eq_true_eq, decide_eq_true_eq, decide_eq_true_eq, decide_eq_true_eq] at this
        exact ⟨this.1.1, this.1.2, this.2.2⟩
      refine M.o_bindE (in_ends _ _ _) (M.o_if (fun hb => ?_) (fun hb => ?_))
      · rw [Bool.not_eq_true', Bool.and_eq_false_iff, decide_eq_false_iff_not, decide_eq_false_iff_not] at hb
        exact M.o_pure ⟨by decide, .inr (.inr (.inl ⟨h0, hI, by omega, rfl⟩))⟩
      · rw [Bool.not_eq_false', Bool.and_eq_true, decide_eq_true_eq, decide_eq_true_eq] at hb
        refine M.o_bind (clash_out h hm) ?_
        rintro ⟨y', c⟩ (⟨e, hF⟩ | ⟨e, hF⟩)
        · rw [Prod.mk.injEq] at e
          obtain ⟨rfl, rfl⟩ := e
          exact M.o_f rfl (M.o_pure ⟨rfl, rfl, rfl, .inr (.inr (.inr (.inr ⟨h0, hI, hb, hF, rfl⟩))), hm⟩)
        · dsimp only at e hF
          subst e
          exact M.o_t rfl (M.o_pure ⟨by decide, .inr (.inr (.inr (.inl ⟨h0, hI, hb, fun hh => hF.bad hh, rfl⟩)))⟩)
  · exact M.o_bindE (opened_bad hy ho h0) (M.o_t (bne_iff_ne.2 h0) (M.o_pure ⟨h0, .inl ⟨h0, rfl⟩⟩))
theorem cnt_succ (p : Span -> Bool) (a : Int) (n : Nat) : ((Bk.kl ys os a (n + 1)).countP p : Int) = ((Bk.kl ys os a n).countP p : Int) + (if p (Bk.kn ys os (a + (n : Int))) = true then 1 else 0) := by
  rw [Bk.kl_succ, List.countP_append]
  simp only [List.countP_cons, List.countP_nil]
  split <;> simp
theorem cnt_le (p : Span -> Bool) (a : Int) (n : Nat) : (Bk.kl ys os a n).countP p <= n := by
  have := List.countP_le_length (p := p) (l := Bk.kl ys os a n)
  rwa [Bk.kl_len] at this
theorem of_passed (hy : ys.length <= 1000000) (ho : os.length <= 1000000) (fr to st : Int) : (zaf ys os f l fr to st).Out (Bk.PaE ys os f l fr to st) := by
  unfold zaf
  refine M.o_bind (between_out hy ho fr to st 0 2000) ?_
  rintro (e | ⟨f', l', m, z⟩) h
  · exact M.o_t (bne_iff_ne.2 h.1) (M.o_pure (.inl ⟨h.1, h.2, rfl, rfl⟩))
  · obtain ⟨rfl, rfl, rfl, hw, hm⟩ := h
    obtain ⟨h0, ⟨i1, i2, i3⟩, hn, hF⟩ := hw.ok
    have h := Bk.chk_ok h0
    have hf0 := h.f0
    have hl3 := h.l3
    have hln := h.ln
    unfold zae
    refine M.o_f rfl (M.o_bindE M.i_pure (M.o_bind (P := fun x => match x with | .inl s => s = (Bk.many (Bk.lop st) ys os fr to, Bk.many (Bk.hip st) ys os fr to) | .inr (_ : Unit) => False) ?_ ?_))
    · refine years_out (s0 := ((0 : Int), (0 : Int))) hl3 (by omega) (by omega) i3 i1 hm (fun y s => ∃ n : Nat, y = fr + n /\ s = (((Bk.kl ys os fr n).countP (Bk.lop st) : Int), ((Bk.kl ys os fr n).countP (Bk.hip st) : Int))) ⟨0, by omega, rfl⟩ ?_ ?_ _ _ _ _
      · rintro y ⟨s, s2⟩ h1 h2 ⟨n, rfl, e⟩
        obtain ⟨rfl, rfl⟩ := Prod.mk.inj e
        have c1 := cnt_le (ys := ys) (os := os) (Bk.lop st) fr n
        have c2 := cnt_le (ys := ys) (os := os) (Bk.hip st) fr n
        have d1 := cnt_succ (ys := ys) (os := os) (Bk.lop st) fr n
        have d2 := cnt_succ (ys := ys) (os := os) (Bk.hip st) fr n
        simp only [zam]
        refine M.o_bindE M.i_pure (M.o_bindE M.i_pure (M.o_bindE M.i_pure (M.o_if (fun hb => ?_) (fun hb => ?_))))
        · have hb' : Bk.lop st (Bk.kn ys os (fr + (n : Int))) = true := hb
          rw [if_pos hb'] at d1
          refine M.o_grd (gA2 (by omega) (by omega)) (M.o_bindE M.i_pure (M.o_bindE M.i_pure (M.o_bindE M.i_pure (M.o_if (fun hc => ?_) (fun hc => ?_)))))
          · have hc' : Bk.hip st (Bk.kn ys os (fr + (n : Int))) = true := hc
            rw [if_pos hc'] at d2
            exact M.o_grd (gA2 (by omega) (by omega)) (M.o_pure ⟨n + 1, by omega, by rw [d1, d2]⟩)
          · have hc' : Bk.hip st (Bk.kn ys os (fr + (n : Int))) = false := hc
            rw [if_neg (by rw [hc']; simp)] at d2
            exact M.o_pure ⟨n + 1, by omega, by rw [d1, d2, Int.add_zero]⟩
        · have hb' : Bk.lop st (Bk.kn ys os (fr + (n : Int))) = false := hb
          rw [if_neg (by rw [hb']; simp)] at d1
          refine M.o_bindE M.i_pure (M.o_bindE M.i_pure (M.o_bindE M.i_pure (M.o_if (fun hc => ?_) (fun hc => ?_))))
          · have hc' : Bk.hip st (Bk.kn ys os (fr + (n : Int))) = true := hc
            rw [if_pos hc'] at d2
            exact M.o_grd (gA2 (by omega) (by omega)) (M.o_pure ⟨n + 1, by omega, by rw [d1, d2, Int.add_zero]⟩)
          · have hc' : Bk.hip st (Bk.kn ys os (fr + (n : Int))) = false := hc
            rw [if_neg (by rw [hc']; simp)] at d2
            exact M.o_pure ⟨n + 1, by omega, by rw [d1, d2, Int.add_zero, Int.add_zero]⟩
      · rintro s ⟨n, e, rfl⟩
        unfold Bk.many
        rw [show Int.toNat (to + 1 - fr) = n by omega]
    · intro x hx
      cases x with
      | inl s => subst hx; exact M.o_pure (.inr ⟨rfl, hw, rfl, rfl⟩)
      | inr u => exact hx.elim
end Go.Proofs.Ytcgalcbkkijkhaa
namespace Go.Proofs.Ytcgalcbkkijkhaa
open Go Go.Nm
variable {ys : List Yr} {os : List Old10} {f l : Int}
theorem told_list {m : List (Int × Span)} {c d fr to : Int} {bd : List Int -> Int × Span -> M (List Int ⊕ Unit)} (g : Span -> Int) (hb : ∀ q x s, q.length <= 100000 -> (bd q (x, s)).Ends (.inl (q ++ [g s]))) (hd : d <= 3000) (ha : 0 <= fr) (hab : fr <= to + 1) (hto : to <= d) (hc : c <= fr) (hm : Knows ys os c d m) (yw : List Yr) (ow : List Old10) (cw dw : Int) :
    (zag (M.yl bd) (.inl []) fr to yw ow cw dw m).Ends (.inl ((Bk.kl ys os fr (Int.toNat (to + 1 - fr))).map g)) := by
  refine M.Out.ends ?_
  refine years_out (s0 := ([] : List Int)) hd ha hab hto hc hm (fun y s => ∃ n : Nat, y = fr + n /\ s = (Bk.kl ys os fr n).map g) ⟨0, by omega, rfl⟩ ?_ ?_ _ _ _ _
  · rintro y s h1 h2 ⟨n, rfl, rfl⟩
    refine M.o_of (hb _ _ _ (by rw [List.length_map, Bk.kl_len]; omega)) ⟨n + 1, by omega, ?_⟩
    rw [Bk.kl_succ, List.map_append]
    rfl
  · rintro s ⟨n, e, rfl⟩
    rw [show Int.toNat (to + 1 - fr) = n by omega]
theorem of_told (hy : ys.length <= 1000000) (ho : os.length <= 1000000) (fr to st : Int) (most : Bool) : (zay ys os f l fr to st most).Out (Bk.ToE ys os f l fr to st most) := by
  unfold zay
  refine M.o_bind (between_out hy ho fr to st 0 2000) ?_
  rintro (e | ⟨f', l', m, z⟩) h
  · exact M.o_t (bne_iff_ne.2 h.1) (M.o_pure (.inl ⟨h.1, h.2, rfl⟩))
  · obtain ⟨rfl, rfl, rfl, hw, hm⟩ := h
    obtain ⟨h0, ⟨i1, i2, i3⟩, hn, hF⟩ := hw.ok
    have h := Bk.chk_ok h0
    have hf0 := h.f0
    have hl3 := h.l3
    have hln := h.ln
    unfold zae
    refine M.o_f rfl (M.o_bindE M.i_pure (M.o_if (fun hb => ?_) (fun hb => ?_)))
    · refine M.o_bindE M.i_pure (M.o_bindE M.i_pure (M.o_bindE (told_list Span.hi (fun q x s hq => ?_) hl3 (by omega) (by omega) (by omega) (by omega) hm _ _ _ _) (M.o_pure (.inr ⟨rfl, hw, ?_⟩))))
      · simp only [zap]
        exact M.i_bind M.i_pure (M.i_grd (decide_eq_true (by simp only [List.length_cons, List.length_nil]; omega)) M.i_pure)
      · refine List.map_congr_left fun s _ => ?_
        unfold Bk.ofs
        rw [if_pos hb]
    · refine M.o_bindE M.i_pure (M.o_bindE (told_list Span.lo (fun q x s hq => ?_) hl3 (by omega) (by omega) (by omega) (by omega) hm _ _ _ _) (M.o_pure (.inr ⟨rfl, hw, ?_⟩)))
      · simp only [zav]
        exact M.i_bind M.i_pure (M.i_grd (decide_eq_true (by simp only [List.length_cons, List.length_nil]; omega)) M.i_pure)
      · refine List.map_congr_left fun s _ => ?_
        unfold Bk.ofs
        rw [if_neg (by rw [hb]; simp)]
/-! ### Shares -/
/-! ### The highest stage that is passed so often -/
theorem wr64_id {a : Int} (h : -9223372036854775808 <= a /\ a <= 9223372036854775807) : wr64 a = a := wrap64 h
theorem reach_one (g : Span -> Int) (hg : ∀ s : Span, (0 <= s.lo /\ s.lo <= 2000 /\ 0 <= s.hi /\ s.hi <= 2000) -> 0 <= g s /\ g s <= 2000) {fr to t : Int} (h : Bk.Ok ys os f l) (hI : Bk.In f l fr to) (ht : 1 <= t /\ t <= to - fr + 1) {L : List Int} (hL : L = (Bk.kl ys os fr (Int.toNat (to + 1 - fr))).map g) :
    (M.grd (decide (L.length <= 1000000)) <| M.grd (decide ((-9223372036854775808 : Int) <= (((isort L).length : Int) - t)) && decide ((((isort L).length : Int) - t) <= (9223372036854775807 : Int))) <|
      M.grd (decide ((0 : Int) <= (((isort L).length : Int) - t)) && decide ((((isort L).length : Int) - t) < ((isort L).length : Int))) <| M.pure ((isort L).getD (Int.toNat (((isort L).length : Int) - t)) 0)).Out (Bk.Top L t) := by
  obtain ⟨i1, i2, i3⟩ := hI
  have hl3 := h.l3
  have hf0 := h.f0
  have hlen : L.length = Int.toNat (to + 1 - fr) := by rw [hL, List.length_map, Bk.kl_len]
  have hsl : (isort L).length = L.length := (isort_perm L).length_eq
  have hall : ∀ x ∈ L, 0 <= x /\ x <= 2000 := by
    intro x hx
    rw [hL] at hx
    obtain ⟨s, hs, rfl⟩ := List.mem_map.1 hx
    obtain ⟨i, hi, rfl⟩ := Bk.kl_mem hs
    exact hg _ (Bk.kn_in h.y h.o _)
  have k := Bk.top_sort hall (t := Int.toNat t) (by omega) (by omega)
  rw [hsl]
  refine M.o_grdD (by omega) (M.o_grd (gA2 (by omega) (by omega)) (M.o_grd (gA2 (by omega) (by omega)) (M.o_pure ?_)))
  rw [show Int.toNat ((L.length : Int) - t) = L.length - Int.toNat t by omega]
  rwa [show ((Int.toNat t : Nat) : Int) = t by omega] at k
theorem of_reaches (hy : ys.length <= 1000000) (ho : os.length <= 1000000) (fr to t : Int) : (zaB ys os f l fr to t).Out (Bk.ReE ys os f l fr to t) := by
  unfold zaB
  have hlast : Bk.chkB ys os f l = 0 -> Bk.In f l fr to -> wr64 (wr64 (to - fr) + 1) = to - fr + 1 := by
    rintro h0 ⟨i1, i2, i3⟩
    have h := Bk.chk_ok h0
    have hf0 := h.f0
    have hl3 := h.l3
    rw [wr64_id (a := to - fr) (by omega), wr64_id (by omega)]
  refine M.o_bind (between_out hy ho fr to t 1 (wr64 (wr64 (to - fr) + 1))) ?_
  rintro (e | ⟨f', l', m, z⟩) h
  · exact M.o_t (bne_iff_ne.2 h.1) (M.o_pure (.inl ⟨h.1, h.2.last hlast, rfl, rfl⟩))
  · obtain ⟨rfl, rfl, rfl, hw, hm⟩ := h
    have hw := hw.last hlast
    obtain ⟨h0, hI, hn, hF⟩ := hw.ok
    have h := Bk.chk_ok h0
    have hf0 := h.f0
    have hl3 := h.l3
    have hln := h.ln
    obtain ⟨i1, i2, i3⟩ := id hI
    have r1 : (za4 ys os f' l' m fr to t).Out (Bk.Top ((Bk.kl ys os fr (Int.toNat (to + 1 - fr))).map Span.lo) t) := by
      unfold za4 zae
      refine M.o_bindE M.i_pure (M.o_bindE (told_list Span.lo (fun q x s hq => ?_) hl3 (by omega) (by omega) (by omega) (by omega) hm _ _ _ _) (reach_one Span.lo (fun s hs => by omega) h hI hn rfl))
      simp only [zan]
      exact M.i_bind M.i_pure (M.i_grd (decide_eq_true (by simp only [List.length_cons, List.length_nil]; omega)) M.i_pure)
    have r2 : (zaU ys os f' l' m fr to t).Out (Bk.Top ((Bk.kl ys os fr (Int.toNat (to + 1 - fr))).map Span.hi) t) := by
      unfold zaU zae
      refine M.o_bindE M.i_pure (M.o_bindE (told_list Span.hi (fun q x s hq => ?_) hl3 (by omega) (by omega) (by omega) (by omega) hm _ _ _ _) (reach_one Span.hi (fun s hs => by omega) h hI hn rfl))
      simp only [zat]
      exact M.i_bind M.i_pure (M.i_grd (decide_eq_true (by simp only [List.length_cons, List.length_nil]; omega)) M.i_pure)
    refine M.o_f rfl (M.o_bindE M.i_pure (M.o_bind r1 fun a ha => M.o_bindE M.i_pure (M.o_bind r2 fun b hb => M.o_pure (.inr ⟨rfl, hw, ha, hb⟩))))
end Go.Proofs.Ytcgalcbkkijkhaa
section
set_option maxRecDepth 100000
set_option maxHeartbeats 16000000
namespace Go.Proofs.Ytcgalcbkkijkhaa
open Go Go.Nm
end Go.Proofs.Ytcgalcbkkijkhaa
end
namespace Go.Nm
namespace Bk
end Bk
end Go.Nm
namespace Go.Proofs.Ytcgalcbkkijkhaa
open Go Go.Nm
variable {ys : List Yr} {os : List Old10} {f l : Int}
end Go.Proofs.Ytcgalcbkkijkhaa
namespace Go.Nm
namespace Bk
/-- What a truth has from one year on. -/
def vl (t : List Int) (f a : Int) (n : Nat) : List Int := (List.range n).map fun (i : Nat) => t.getD (Int.toNat (a + (i : Int) - f)) 0
def ct (t : List Int) (f a : Int) (n : Nat) (st : Int) : Nat := (vl t f a n).countP fun x => decide (st <= x)
theorem vl_succ (t : List Int) (f a : Int) (n : Nat) : vl t f a (n + 1) = vl t f a n ++ [t.getD (Int.toNat (a + (n : Int) - f)) 0] := by
  unfold vl
  rw [List.range_succ, List.map_append]
  rfl
theorem vl_len (t : List Int) (f a : Int) (n : Nat) : (vl t f a n).length = n := by unfold vl; rw [List.length_map, List.length_range]
theorem ct_succ (t : List Int) (f a : Int) (n : Nat) (st : Int) : ct t f a (n + 1) st = ct t f a n st + (if st <= t.getD (Int.toNat (a + (n : Int) - f)) 0 then 1 else 0) := by
  unfold ct
  rw [vl_succ, List.countP_append]
  simp [List.countP_cons]
theorem ct_le (t : List Int) (f a : Int) (n : Nat) (st : Int) : ct t f a n st <= n := by
  have := List.countP_le_length (p := fun x => decide (st <= x)) (l := vl t f a n)
  rwa [vl_len] at this
theorem mapc {g h : Nat -> Int} {n : Nat} (hgh : ∀ i, i < n -> g i <= h i) (st : Int) : ((List.range n).map g).countP (fun x => decide (st <= x)) <= ((List.range n).map h).countP (fun x => decide (st <= x)) := by
  rw [List.countP_map, List.countP_map]
  refine List.countP_mono_left fun i hi hx => ?_
  have h1 := hgh i (List.mem_range.1 hi)
  have h2 : st <= g i := of_decide_eq_true hx
  exact decide_eq_true (by omega)
theorem Top.le {A B : List Int} {t u v : Int} (hc : ∀ x, A.countP (fun y => decide (x <= y)) <= B.countP (fun y => decide (x <= y))) (hu : Top A t u) (hv : Top B t v) : u <= v := by
  obtain ⟨h1, h2, h3, h4⟩ := hu
  obtain ⟨k1, k2, k3, k4⟩ := hv
  refine Int.not_lt.1 fun e => ?_
  have := cnt_mono (L := B) (v := v + 1) (w := u) (by omega)
  have := hc u
  omega
theorem los (ys : List Yr) (os : List Old10) (a : Int) (n : Nat) : (kl ys os a n).map Span.lo = (List.range n).map fun (i : Nat) => (kn ys os (a + (i : Int))).lo := by unfold kl; rw [List.map_map]; rfl
theorem his (ys : List Yr) (os : List Old10) (a : Int) (n : Nat) : (kl ys os a n).map Span.hi = (List.range n).map fun (i : Nat) => (kn ys os (a + (i : Int))).hi := by unfold kl; rw [List.map_map]; rfl
theorem many_lo (ys : List Yr) (os : List Old10) (fr to st : Int) : many (lop st) ys os fr to = (((kl ys os fr (Int.toNat (to + 1 - fr))).map Span.lo).countP (fun x => decide (st <= x)) : Nat) := by unfold many; rw [List.countP_map]; rfl
theorem many_hi (ys : List Yr) (os : List Old10) (fr to st : Int) : many (hip st) ys os fr to = (((kl ys os fr (Int.toNat (to + 1 - fr))).map Span.hi).countP (fun x => decide (st <= x)) : Nat) := by unfold many; rw [List.countP_map]; rfl
theorem Fine.lo_hi {ys : List Yr} {os : List Old10} {f l : Int} (h : Fine ys os f l) {fr to : Int} (hI : In f l fr to) (st : Int) : ((kl ys os fr (Int.toNat (to + 1 - fr))).map Span.lo).countP (fun x => decide (st <= x)) <= ((kl ys os fr (Int.toNat (to + 1 - fr))).map Span.hi).countP (fun x => decide (st <= x)) := by
  obtain ⟨i1, i2, i3⟩ := hI
  rw [los, his]
  exact mapc (fun i hi => h (fr + i) (by omega) (by omega)) st
/-- What is told of a book with a truth. -/
theorem Tr.wr {ys : List Yr} {os : List Old10} {f l : Int} {t : List Int} (h : Tr ys os f l t) {fr to n a b : Int} (hI : In f l fr to) (hn : a <= n /\ n <= b) : WrE ys os f l fr to n a b 0 := .inr (.inr (.inr (.inr ⟨chk_of h.ok, hI, hn, h.fine, rfl⟩)))
end Bk
end Go.Nm
namespace Go.Proofs.Ytcgalcbkkijkhaa
open Go Go.Nm
variable {ys : List Yr} {os : List Old10} {f l : Int} {t : List Int}
theorem counted_ends (ys : List Yr) (os : List Old10) {fr to : Int} (st : Int) (h1 : f <= fr) (h2 : fr <= to + 1) (h3 : to <= l) (hf : 0 <= f) (hl : l <= 3000) (hlen : (t.length : Int) = l - f + 1) : (zbk ys os f l t fr to st).Ends (Bk.ct t f fr (Int.toNat (to + 1 - fr)) st : Nat) := by
  refine M.Out.ends ?_
  unfold zbk
  refine M.o_bind (P := fun n => n = ((Bk.ct t f fr (Int.toNat (to + 1 - fr)) st : Nat) : Int)) ?_ (fun n e => M.o_pure e)
  refine M.o_for (Int.toNat (to + 1 - fr)) (fun i (s : Nat × Int) => s = (Bk.ct t f fr i st, fr + (i : Int))) ?_ ?_ (by simp [Bk.ct, Bk.vl])
  · rintro i ⟨n, y⟩ hi e
    obtain ⟨rfl, rfl⟩ := Prod.mk.inj e
    have d := Bk.ct_succ t f fr i st
    have c := Bk.ct_le t f fr i st
    have hs : fr + ((i + 1 : Nat) : Int) = fr + i + 1 := by omega
    simp only [zaN]
    refine M.o_t (decide_eq_true (by omega)) (M.o_grd (gA2 (by omega) (by omega)) (M.o_grd (gA2 (by omega) (by omega)) (M.o_if (fun hb => ?_) (fun hb => ?_))))
    · rw [if_pos (of_decide_eq_true hb)] at d
      exact M.o_grd (gA2 (by omega) (by omega)) (M.o_grd (gA2 (by omega) (by omega)) (M.o_pure (by dsimp only; rw [d, hs])))
    · rw [if_neg (of_decide_eq_false hb)] at d
      exact M.o_grd (gA2 (by omega) (by omega)) (M.o_pure (by simp only [d, hs, Nat.add_zero]))
  · rintro ⟨n, y⟩ e
    obtain ⟨rfl, rfl⟩ := Prod.mk.inj e
    simp only [zaN]
    exact M.o_f (decide_eq_false (by omega)) (M.o_pure rfl)
theorem tr_passed (h : Bk.Tr ys os f l t) {fr to st : Int} (hI : Bk.In f l fr to) (hs : 0 <= st /\ st <= 2000) : (zaf ys os f l fr to st).Ends (Bk.many (Bk.lop st) ys os fr to, Bk.many (Bk.hip st) ys os fr to, 0) := by
  have h60 := h.ok.y60
  have h8 := h.ok.o8
  obtain ⟨r, g, e⟩ := of_passed (ys := ys) (os := os) (f := f) (l := l) (by omega) (by omega) fr to st
  have k : Bk.PaE ys os f l fr to st (Bk.many (Bk.lop st) ys os fr to, Bk.many (Bk.hip st) ys os fr to, 0) := .inr ⟨rfl, h.wr hI hs, rfl, rfl⟩
  rw [← e.uniq k]
  exact g
theorem tr_reaches (h : Bk.Tr ys os f l t) {fr to n : Int} (hI : Bk.In f l fr to) (hn : 1 <= n /\ n <= to - fr + 1) : ∃ u v, (zaB ys os f l fr to n).Ends (u, v, 0) /\ Bk.Top ((Bk.kl ys os fr (Int.toNat (to + 1 - fr))).map Span.lo) n u /\ Bk.Top ((Bk.kl ys os fr (Int.toNat (to + 1 - fr))).map Span.hi) n v := by
  have h60 := h.ok.y60
  have h8 := h.ok.o8
  obtain ⟨⟨u, v, z⟩, g, e⟩ := of_reaches (ys := ys) (os := os) (f := f) (l := l) (by omega) (by omega) fr to n
  have hw : z = 0 := e.wr.uniq (h.wr hI hn)
  subst hw
  rcases e with ⟨h1, _⟩ | ⟨_, _, h3, h4⟩
  · exact absurd rfl h1
  · exact ⟨u, v, g, h3, h4⟩
theorem tr_holds (h : Bk.Tr ys os f l t) : (zaD ys os f l t).Ends (true, 0) := by
  have h60 := h.ok.y60
  have h8 := h.ok.o8
  have hl := h.len
  have h1 := h.ok.ln
  obtain ⟨r, g, e⟩ := of_holds (ys := ys) (os := os) (f := f) (l := l) (by omega) (by omega) t (by omega)
  have k : Bk.HoE ys os f l t (true, 0) := .inr (.inr (.inr (.inr ⟨Bk.chk_of h.ok, h.len, h.all, h.can, rfl⟩)))
  rw [← e.uniq k]
  exact g
theorem tr_told (h : Bk.Tr ys os f l t) {fr to st : Int} (hI : Bk.In f l fr to) (hs : 0 <= st /\ st <= 2000) (most : Bool) : (zay ys os f l fr to st most).Ends ((Bk.kl ys os f (Int.toNat (l + 1 - f))).map (Bk.ofs most), 0) := by
  have h60 := h.ok.y60
  have h8 := h.ok.o8
  obtain ⟨⟨L, z⟩, g, e⟩ := of_told (ys := ys) (os := os) (f := f) (l := l) (by omega) (by omega) fr to st most
  rcases e with ⟨h1, h2, _⟩ | ⟨h1, _, h3⟩
  · exact absurd (h2.uniq (h.wr hI hs)) h1
  · dsimp only at h1 h3
    subst h1 h3
    exact g
end Go.Proofs.Ytcgalcbkkijkhaa
section
set_option maxRecDepth 100000
set_option maxHeartbeats 16000000
namespace Go.Proofs.Ytcgalcbkkijkhaa
open Go Go.Nm
end Go.Proofs.Ytcgalcbkkijkhaa
end
section
set_option maxRecDepth 100000
set_option maxHeartbeats 16000000
namespace Go.Proofs.Ytcgalcbkkijkhaa
open Go Go.Nm
def zau (r00 : List Yr) (r01 : List Old10) (r02 : Int) (r03 : Int) (r12 : List Int) (r3 : Int) (r4 : Int) (r5 : Int) (r002 : Int) (r012 : Int) : Nat -> M (Nat ⊕ (Unit ⊕ Unit)) := fun s =>
  bif decide ((s : Int) < (([false, true]).length : Int)) then (
  M.grd (decide ((s : Int) < (([false, true]).length : Int))) <|
  M.bind (zay r00 r01 r02 r03 (r02 + r3) ((r02 + r3) + r4) r5 (([false, true]).getD s false)) fun (r0, r14) =>
  bif ((r14 != 0) || ((r0.length : Int) != (r12.length : Int))) then (
  M.pure (.inr (.inl ())))
  else (
  M.bind (zaD r00 r01 r02 r03 r0) fun (r04, r15) =>
  M.bind (zbk r00 r01 r02 r03 r0 (r02 + r3) ((r02 + r3) + r4) r5) fun r6 =>
  bif ((((r15 != 0) || (!r04)) || ((([false, true]).getD s false) && (r6 != r012))) || ((!(([false, true]).getD s false)) && (r6 != r002))) then (
  M.pure (.inr (.inl ())))
  else (
  M.grd (decide ((-9223372036854775808 : Int) <= ((s : Int) + 1)) && decide (((s : Int) + 1) <= (9223372036854775807 : Int))) <|
  M.pure (.inl (s + 1)))))
  else (
  M.pure (.inr (.inr ())))
def zai (r00 : List Yr) (r01 : List Old10) (r02 : Int) (r03 : Int) (r3 : Int) (r4 : Int) : Nat -> M (Nat ⊕ (Unit ⊕ Unit)) := fun times =>
  M.grd (decide ((-9223372036854775808 : Int) <= (((r02 + r3) + r4) - (r02 + r3))) && decide ((((r02 + r3) + r4) - (r02 + r3)) <= (9223372036854775807 : Int))) <|
  M.grd (decide ((-9223372036854775808 : Int) <= ((((r02 + r3) + r4) - (r02 + r3)) + 1)) && decide (((((r02 + r3) + r4) - (r02 + r3)) + 1) <= (9223372036854775807 : Int))) <|
  bif decide ((times : Int) <= ((((r02 + r3) + r4) - (r02 + r3)) + 1)) then (
  M.bind (zaB r00 r01 r02 r03 (r02 + r3) ((r02 + r3) + r4) (times : Int)) fun (r004, r014, r17) =>
  bif ((r17 != 0) || (decide (r014 < r004))) then (
  M.pure (.inr (.inl ())))
  else (
  M.bind (zaf r00 r01 r02 r03 (r02 + r3) ((r02 + r3) + r4) r004) fun (r005, r015, r18) =>
  M.bind (zaf r00 r01 r02 r03 (r02 + r3) ((r02 + r3) + r4) r014) fun (r006, r016, r19) =>
  bif ((((r18 != 0) || (r19 != 0)) || (decide (r005 < (times : Int)))) || (decide (r016 < (times : Int)))) then (
  M.pure (.inr (.inl ())))
  else (
  bif decide (r014 < 2000) then (
  M.grd (decide ((-9223372036854775808 : Int) <= (r014 + 1)) && decide ((r014 + 1) <= (9223372036854775807 : Int))) <|
  M.bind (zaf r00 r01 r02 r03 (r02 + r3) ((r02 + r3) + r4) (r014 + 1)) fun (r007, r017, r110) =>
  bif ((r110 != 0) || (decide ((times : Int) <= r017))) then (
  M.pure (.inr (.inl ())))
  else (
  M.grd (decide ((-9223372036854775808 : Int) <= ((times : Int) + 1)) && decide (((times : Int) + 1) <= (9223372036854775807 : Int))) <|
  M.pure (.inl (times + 1))))
  else (
  M.grd (decide ((-9223372036854775808 : Int) <= ((times : Int) + 1)) && decide (((times : Int) + 1) <= (9223372036854775807 : Int))) <|
  M.pure (.inl (times + 1))))))
  else (
  M.pure (.inr (.inr ())))
def zbq (numbers : List UInt8) (at_ : Int) (far : Int) (level : Int) (more : Int) : M Bool :=
  M.bind (zbz numbers) fun (r1, r2) =>
  M.bind (za7 numbers r1 r2 40) fun (r00, r01, r02, r03, r12, q1, q2) =>
  M.bind (zas at_ (r12.length : Int)) fun r3 =>
  M.grd (decide ((-9223372036854775808 : Int) <= (r02 + r3)) && decide ((r02 + r3) <= (9223372036854775807 : Int))) <|
  M.grd (decide ((-9223372036854775808 : Int) <= (r03 - (r02 + r3))) && decide ((r03 - (r02 + r3)) <= (9223372036854775807 : Int))) <|
  M.grd (decide ((-9223372036854775808 : Int) <= ((r03 - (r02 + r3)) + 1)) && decide (((r03 - (r02 + r3)) + 1) <= (9223372036854775807 : Int))) <|
  M.bind (zas far ((r03 - (r02 + r3)) + 1)) fun r4 =>
  M.grd (decide ((-9223372036854775808 : Int) <= ((r02 + r3) + r4)) && decide (((r02 + r3) + r4) <= (9223372036854775807 : Int))) <|
  M.bind (zas level 700) fun r5 =>
  M.bind (zaf r00 r01 r02 r03 (r02 + r3) ((r02 + r3) + r4) r5) fun (r002, r012, r13) =>
  M.grd ((!(!(((r13 != 0) || (decide (r002 < 0))) || (decide (r012 < r002)))) || (decide ((-9223372036854775808 : Int) <= (((r02 + r3) + r4) - (r02 + r3))) && decide ((((r02 + r3) + r4) - (r02 + r3)) <= (9223372036854775807 : Int))))) <|
  M.grd ((!(!(((r13 != 0) || (decide (r002 < 0))) || (decide (r012 < r002)))) || (decide ((-9223372036854775808 : Int) <= ((((r02 + r3) + r4) - (r02 + r3)) + 1)) && decide (((((r02 + r3) + r4) - (r02 + r3)) + 1) <= (9223372036854775807 : Int))))) <|
  bif ((((r13 != 0) || (decide (r002 < 0))) || (decide (r012 < r002))) || (decide (((((r02 + r3) + r4) - (r02 + r3)) + 1) < r012))) then (
  M.pure false)
  else (
  M.bind (M.iter (zau r00 r01 r02 r03 r12 r3 r4 r5 r002 r012) 0) fun x_ => match x_ with
  | (.inl (_ : Unit)) => (
  M.pure false)
  | (.inr (_ : Unit)) => (
  M.bind (zas more 400) fun r7 =>
  M.grd (decide ((-9223372036854775808 : Int) <= (r5 + r7)) && decide ((r5 + r7) <= (9223372036854775807 : Int))) <|
  M.bind (zaf r00 r01 r02 r03 (r02 + r3) ((r02 + r3) + r4) (min 2000 (r5 + r7))) fun (r003, r013, r16) =>
  bif (((r16 != 0) || (decide (r002 < r003))) || (decide (r012 < r013))) then (
  M.pure false)
  else (
  M.bind (M.iter (zai r00 r01 r02 r03 r3 r4) 1) fun x_ => match x_ with
  | (.inl (_ : Unit)) => (
  M.pure false)
  | (.inr (_ : Unit)) => (
  M.bind (zbC) fun r8 =>
  M.pure r8))))
theorem zcj {R : List Chunk} {C_numbers : Cells} {v_numbers : Value} (numbers : List UInt8) (at_ : Int) (far : Int) (level : Int) (more : Int) (hC_numbers : Reads R C_numbers) (hs_numbers : Sl C_numbers v_numbers numbers) {r : Bool} (hM : (zbq numbers at_ far level more).Ends r) (w : World) (H : St w w [] R) : Ret Try.prog 8 #[v_numbers, I at_, I far, I level, I more] w fun v w' => ∃ (y0 : Bool), y0 = r /\ v = B y0 /\ St w w' [] R := by
 refine ret_of_W Try.func8 rfl rfl rfl ?_
 refine W.seq ?_
 refine W.region rfl ?_
 refine s_val (x_as (v := B false) rfl) ?_
 refine s_nil ?_
 refine W.seq ?_
 refine W.region rfl ?_
 refine s_val (x_mv (v := v_numbers) rfl) ?_
 obtain ⟨r2z, hx1z, hM⟩ := M.e_bind hM
 refine s_call cf12 [v_numbers] rfl (zcl numbers (hC_numbers.app _) hs_numbers hx1z _ (St.give (T := []) H rfl)) ?_
 rintro vq w3z ⟨r1, r2, nb0_1, hr4z, hvq, H2_⟩
 subst hr4z
 subst vq
 try dsimp only at hM
 replace H : St w w3z [cBlk nb0_1 [v_numbers, I r1, I r2] 101] R := H.back H2_ rfl
 clear H2_
 obtain ⟨r6z, hx5z, hM⟩ := M.e_bind hM
 refine s_call cf11 [.pointer (some ⟨nb0_1, 0, none⟩), I 40] rfl (zce numbers r1 r2 40 (hC_numbers.app _) hs_numbers hx5z _ (St.give (T := []) H rfl)) ?_
 rintro vq w7z ⟨r00, r01, r02, r03, r12, q1, q2, u0_2, u1_3, rr2_4, Bs3_5, u4_6, hr8z, hvq, H2_, hf9z⟩
 subst hr8z
 subst vq
 try dsimp only at hM
 replace H : St w w7z [cOwn (α := Yr) 41 u0_2 r00, cOwn (α := Raw 3) 43 u1_3 rr2_4, cRo Bs3_5, cOwn (α := Int) 3 u4_6 r12, cBlk nb0_1 [v_numbers, I q1, I q2] 101] R := H.back H2_ rfl
 clear H2_
 refine s_val (x_mv (v := .tuple #[.agg #[u0_2, u1_3, I r02, I r03], u4_6]) rfl) ?_
 refine s_val (x_ext (vs := [.agg #[u0_2, u1_3, I r02, I r03], u4_6]) (v := .agg #[u0_2, u1_3, I r02, I r03]) rfl rfl) ?_
 refine s_val (x_ext (vs := [.agg #[u0_2, u1_3, I r02, I r03], u4_6]) (v := u4_6) rfl rfl) ?_
 refine t_alloc (cs := [.slice none 0 0, .slice none 0 0, I 0, I 0]) H Al26 rfl ?_
 intro b_7 w10z H
 refine t_st (k := 0) (b := b_7) (off := 0) (cs := [.slice none 0 0, .slice none 0 0, I 0, I 0]) (vs := [u0_2, u1_3, I r02, I r03]) (cs' := [u0_2, u1_3, I r02, I r03]) (v := .agg #[u0_2, u1_3, I r02, I r03]) (L' := [cBlk b_7 [u0_2, u1_3, I r02, I r03] 26, cOwn (α := Yr) 41 u0_2 r00, cOwn (α := Raw 3) 43 u1_3 rr2_4, cRo Bs3_5, cOwn (α := Int) 3 u4_6 r12, cBlk nb0_1 [v_numbers, I q1, I q2] 101]) H rfl rfl rfl Sz26 rfl rfl rfl (by simp only [List.all_cons, List.all_nil, Bool.true_and, Bool.and_true, Sl.oc (ownSl (H.get (k := 1) rfl)), Sl.oc (rowSl rfl (H.get (k := 2) rfl) (roLe _ (H.get (k := 3) rfl)) hf9z)]; try rfl) rfl rfl ?_
 intro w11z H
 refine s_val (x_as (v := u4_6) rfl) ?_
 refine s_nil ?_
 refine W.seq ?_
 refine W.draw (fun W => St w W [cBlk b_7 [u0_2, u1_3, I r02, I r03] 26, cOwn (α := Yr) 41 u0_2 r00, cOwn (α := Raw 3) 43 u1_3 rr2_4, cRo Bs3_5, cOwn (α := Int) 3 u4_6 r12, cBlk nb0_1 [v_numbers, I q1, I q2] 101] R) [(0, true), (1, true), (2, true), (3, true), (4, true), (5, false), (6, true), (7, true)] mixed (by decide +kernel) rfl ?_
 intro w12z hx_
 replace H : St w w12z [cBlk b_7 [u0_2, u1_3, I r02, I r03] 26, cOwn (α := Yr) 41 u0_2 r00, cOwn (α := Raw 3) 43 u1_3 rr2_4, cRo Bs3_5, cOwn (α := Int) 3 u4_6 r12, cBlk nb0_1 [v_numbers, I q1, I q2] 101] R := H.ext hx_
 clear hx_
 refine ⟨(H.pick [0, 1, 2, 3, 4, 5] (by decide) rfl), ?_⟩
 refine d_q rfl (fun w' H => x_fa (a := .pointer (some ⟨b_7, 0, none⟩)) (v := .pointer (some ⟨b_7, 2, none⟩)) rfl (fa_blk (o := 0) Fd26_2 Sz3)) ?_
 refine d_q rfl (fun w' H => x_ld (p := .pointer (some ⟨b_7, 2, none⟩)) (v := I r02) rfl (ldb_sc Sc3 (H.blk (k := 0) rfl) rfl)) ?_
 refine d_q rfl (fun w' H => x_mv (v := I at_) rfl) ?_
 refine d_q rfl (fun w' H => x_mv (v := u4_6) rfl) ?_
 have hl13z := ((ownSl (H.get (k := 4) rfl))).len_le
 refine d_q rfl (fun w' H => x_lenS T27.und rfl (ownSl (H.get (k := 4) rfl))) ?_
 refine d_l rfl ?_
 obtain ⟨r15z, hx14z, hM⟩ := M.e_bind hM
 refine s_call cf13 [I at_, I (r12.length : Int)] rfl (za3 at_ (r12.length : Int) hx14z _ (St.give (T := [cBlk b_7 [u0_2, u1_3, I r02, I r03] 26, cOwn (α := Yr) 41 u0_2 r00, cOwn (α := Raw 3) 43 u1_3 rr2_4, cRo Bs3_5, cOwn (α := Int) 3 u4_6 r12, cBlk nb0_1 [v_numbers, I q1, I q2] 101]) H rfl)) ?_
 rintro vq w16z ⟨r3, hr17z, hvq, H2_⟩
 subst hr17z
 subst vq
 try dsimp only at hM
 replace H : St w w16z [cBlk b_7 [u0_2, u1_3, I r02, I r03] 26, cOwn (α := Yr) 41 u0_2 r00, cOwn (α := Raw 3) 43 u1_3 rr2_4, cRo Bs3_5, cOwn (α := Int) 3 u4_6 r12, cBlk nb0_1 [v_numbers, I q1, I q2] 101] R := H.back H2_ rfl
 clear H2_
 refine s_nil ⟨(H.pick [0, 1, 2, 3, 4, 5] (by decide) rfl), ?_⟩
 obtain ⟨sd18z, hM⟩ := M.e_grd hM
 simp only [Bool.and_eq_true, decide_eq_true_eq] at sd18z
 refine d_q rfl (fun w' H => x_ari (a := r02) (b := r3) (r := r02 + r3) rfl rfl rfl (by omega)) ?_
 refine d_q rfl (fun w' H => x_as (v := I (r02 + r3)) rfl) ?_
 refine d_nil ?_
 refine W.seq ?_
 refine W.region rfl ?_
 refine s_val (x_mv (v := I (r02 + r3)) rfl) ?_
 refine s_val (x_mv (v := I far) rfl) ?_
 refine s_val (x_fa (a := .pointer (some ⟨b_7, 0, none⟩)) (v := .pointer (some ⟨b_7, 3, none⟩)) rfl (fa_blk (o := 0) Fd26_3 Sz3)) ?_
 refine s_val (x_ld (p := .pointer (some ⟨b_7, 3, none⟩)) (v := I r03) rfl (ldb_sc Sc3 (H.blk (k := 0) rfl) rfl)) ?_
 refine s_val (x_mv (v := I (r02 + r3)) rfl) ?_
 obtain ⟨sd19z, hM⟩ := M.e_grd hM
 simp only [Bool.and_eq_true, decide_eq_true_eq] at sd19z
 refine s_val (x_ari (a := r03) (b := r02 + r3) (r := r03 - (r02 + r3)) rfl rfl rfl (by omega)) ?_
 obtain ⟨sd20z, hM⟩ := M.e_grd hM
 simp only [Bool.and_eq_true, decide_eq_true_eq] at sd20z
 refine s_val (x_ari (a := r03 - (r02 + r3)) (b := 1) (r := (r03 - (r02 + r3)) + 1) rfl rfl rfl (by omega)) ?_
 obtain ⟨r22z, hx21z, hM⟩ := M.e_bind hM
 refine s_call cf13 [I far, I ((r03 - (r02 + r3)) + 1)] rfl (za3 far ((r03 - (r02 + r3)) + 1) hx21z _ (St.give (T := [cBlk b_7 [u0_2, u1_3, I r02, I r03] 26, cOwn (α := Yr) 41 u0_2 r00, cOwn (α := Raw 3) 43 u1_3 rr2_4, cRo Bs3_5, cOwn (α := Int) 3 u4_6 r12, cBlk nb0_1 [v_numbers, I q1, I q2] 101]) H rfl)) ?_
 rintro vq w23z ⟨r4, hr24z, hvq, H2_⟩
 subst hr24z
 subst vq
 try dsimp only at hM
 replace H : St w w23z [cBlk b_7 [u0_2, u1_3, I r02, I r03] 26, cOwn (α := Yr) 41 u0_2 r00, cOwn (α := Raw 3) 43 u1_3 rr2_4, cRo Bs3_5, cOwn (α := Int) 3 u4_6 r12, cBlk nb0_1 [v_numbers, I q1, I q2] 101] R := H.back H2_ rfl
 clear H2_
 obtain ⟨sd25z, hM⟩ := M.e_grd hM
 simp only [Bool.and_eq_true, decide_eq_true_eq] at sd25z
 refine s_val (x_ari (a := r02 + r3) (b := r4) (r := (r02 + r3) + r4) rfl rfl rfl (by omega)) ?_
 refine s_val (x_as (v := I ((r02 + r3) + r4)) rfl) ?_
 refine s_nil ?_
 refine W.seq ?_
 refine W.region rfl ?_
 refine s_val (x_mv (v := I level) rfl) ?_
 obtain ⟨r27z, hx26z, hM⟩ := M.e_bind hM
 refine s_call cf13 [I level, I 700] rfl (za3 level 700 hx26z _ (St.give (T := [cBlk b_7 [u0_2, u1_3, I r02, I r03] 26, cOwn (α := Yr) 41 u0_2 r00, cOwn (α := Raw 3) 43 u1_3 rr2_4, cRo Bs3_5, cOwn (α := Int) 3 u4_6 r12, cBlk nb0_1 [v_numbers, I q1, I q2] 101]) H rfl)) ?_
 rintro vq w28z ⟨r5, hr29z, hvq, H2_⟩
 subst hr29z
 subst vq
 try dsimp only at hM
 replace H : St w w28z [cBlk b_7 [u0_2, u1_3, I r02, I r03] 26, cOwn (α := Yr) 41 u0_2 r00, cOwn (α := Raw 3) 43 u1_3 rr2_4, cRo Bs3_5, cOwn (α := Int) 3 u4_6 r12, cBlk nb0_1 [v_numbers, I q1, I q2] 101] R := H.back H2_ rfl
 clear H2_
 refine s_val (x_as (v := I r5) rfl) ?_
 refine s_nil ?_
 refine W.seq ?_
 refine W.region rfl ?_
 refine s_val (x_ld (p := .pointer (some ⟨b_7, 0, none⟩)) (v := .agg #[u0_2, u1_3, I r02, I r03]) rfl (ldb_ag (ds := [u0_2, u1_3, I r02, I r03]) Ag26 Sz26 (H.blk (k := 0) rfl) rfl rfl)) ?_
 refine s_val (x_mv (v := I (r02 + r3)) rfl) ?_
 refine s_val (x_mv (v := I ((r02 + r3) + r4)) rfl) ?_
 refine s_val (x_mv (v := I r5) rfl) ?_
 obtain ⟨r31z, hx30z, hM⟩ := M.e_bind hM
 refine s_call cf15 [.agg #[u0_2, u1_3, I r02, I r03], I (r02 + r3), I ((r02 + r3) + r4), I r5] rfl (zad r00 r01 r02 r03 (r02 + r3) ((r02 + r3) + r4) r5 (Reads.of (k := 1) rfl ownLe) (ownSl (H.get (k := 1) rfl)) (Reads.sup (Reads.of (k := 2) rfl ownLe) (Reads.of (k := 3) rfl roLe)) (rowSl rfl (H.get (k := 2) rfl) (roLe _ (H.get (k := 3) rfl)) hf9z) hx30z _ (St.give (T := [cBlk b_7 [u0_2, u1_3, I r02, I r03] 26, cOwn (α := Yr) 41 u0_2 r00, cOwn (α := Raw 3) 43 u1_3 rr2_4, cRo Bs3_5, cOwn (α := Int) 3 u4_6 r12, cBlk nb0_1 [v_numbers, I q1, I q2] 101]) H rfl)) ?_
 rintro vq w32z ⟨r002, r012, r13, hr33z, hvq, H2_⟩
 subst hr33z
 subst vq
 try dsimp only at hM
 replace H : St w w32z [cBlk b_7 [u0_2, u1_3, I r02, I r03] 26, cOwn (α := Yr) 41 u0_2 r00, cOwn (α := Raw 3) 43 u1_3 rr2_4, cRo Bs3_5, cOwn (α := Int) 3 u4_6 r12, cBlk nb0_1 [v_numbers, I q1, I q2] 101] R := H.back H2_ rfl
 clear H2_
 refine s_val (x_mv (v := .tuple #[.agg #[I r002, I r012], I r13]) rfl) ?_
 refine s_val (x_ext (vs := [.agg #[I r002, I r012], I r13]) (v := .agg #[I r002, I r012]) rfl rfl) ?_
 refine s_val (x_ext (vs := [.agg #[I r002, I r012], I r13]) (v := I r13) rfl rfl) ?_
 refine t_alloc (cs := [I 0, I 0]) H Al35 rfl ?_
 intro b_8 w34z H
 refine t_st (k := 0) (b := b_8) (off := 0) (cs := [I 0, I 0]) (vs := [I r002, I r012]) (cs' := [I r002, I r012]) (v := .agg #[I r002, I r012]) (L' := [cBlk b_8 [I r002, I r012] 35, cBlk b_7 [u0_2, u1_3, I r02, I r03] 26, cOwn (α := Yr) 41 u0_2 r00, cOwn (α := Raw 3) 43 u1_3 rr2_4, cRo Bs3_5, cOwn (α := Int) 3 u4_6 r12, cBlk nb0_1 [v_numbers, I q1, I q2] 101]) H rfl rfl rfl Sz35 rfl rfl rfl rfl rfl rfl ?_
 intro w35z H
 refine s_val (x_as (v := I r13) rfl) ?_
 refine s_nil ?_
 refine W.seq ?_
 refine W.seq ?_
 refine W.region rfl ?_
 refine s_val (x_mv (v := I r13) rfl) ?_
 refine s_val (x_cmp (kd := .i64) (a := r13) (b := 0) (r := r13 != 0) rfl rfl rfl) ?_
 refine s_val (x_mv (v := B (r13 != 0)) rfl) ?_
 refine g_val (!(r13 != 0)) (gy_f rfl) (fun hg => x_fa (a := .pointer (some ⟨b_8, 0, none⟩)) (v := .pointer (some ⟨b_8, 0, none⟩)) rfl (fa_blk (o := 0) Fd35_0 Sz3)) ?_
 refine g_val (!(r13 != 0)) (gy_f rfl) (fun hg => x_ld (p := .pointer (some ⟨b_8, 0, none⟩)) (v := I r002) (gd_of (c := !(r13 != 0)) hg (.pointer (some ⟨b_8, 0, none⟩))) (ldb_sc Sc3 (H.blk (k := 0) rfl) rfl)) ?_
 refine g_val (!(r13 != 0)) (gy_f rfl) (fun hg => x_cmp (kd := .i64) (a := r002) (b := 0) (r := decide (r002 < 0)) (gd_of (c := !(r13 != 0)) hg (I r002)) rfl rfl) ?_
 refine s_val (x_por (b := r13 != 0) (r := decide (r002 < 0)) rfl rfl (fun hb => gd_of (c := !(r13 != 0)) (by first | exact hb | (rw [hb]; rfl) | simp_all) (B (decide (r002 < 0))))) ?_
 refine s_val (x_mv (v := B ((r13 != 0) || (decide (r002 < 0)))) rfl) ?_
 refine g_val (!((r13 != 0) || (decide (r002 < 0)))) (gy_f rfl) (fun hg => x_fa (a := .pointer (some ⟨b_8, 0, none⟩)) (v := .pointer (some ⟨b_8, 0, none⟩)) rfl (fa_blk (o := 0) Fd35_0 Sz3)) ?_
 refine g_val (!((r13 != 0) || (decide (r002 < 0)))) (gy_f rfl) (fun hg => x_ld (p := .pointer (some ⟨b_8, 0, none⟩)) (v := I r002) (gd_of (c := !((r13 != 0) || (decide (r002 < 0)))) hg (.pointer (some ⟨b_8, 0, none⟩))) (ldb_sc Sc3 (H.blk (k := 0) rfl) rfl)) ?_
 refine g_val (!((r13 != 0) || (decide (r002 < 0)))) (gy_f rfl) (fun hg => x_fa (a := .pointer (some ⟨b_8, 0, none⟩)) (v := .pointer (some ⟨b_8, 1, none⟩)) rfl (fa_blk (o := 0) Fd35_1 Sz3)) ?_
 refine g_val (!((r13 != 0) || (decide (r002 < 0)))) (gy_f rfl) (fun hg => x_ld (p := .pointer (some ⟨b_8, 1, none⟩)) (v := I r012) (gd_of (c := !((r13 != 0) || (decide (r002 < 0)))) hg (.pointer (some ⟨b_8, 1, none⟩))) (ldb_sc Sc3 (H.blk (k := 0) rfl) rfl)) ?_
 refine g_val (!((r13 != 0) || (decide (r002 < 0)))) (gy_f rfl) (fun hg => x_cmp (kd := .i64) (a := r002) (b := r012) (r := decide (r012 < r002)) (gd_of (c := !((r13 != 0) || (decide (r002 < 0)))) hg (I r002)) (gd_of (c := !((r13 != 0) || (decide (r002 < 0)))) hg (I r012)) rfl) ?_
 refine s_val (x_por (b := ((r13 != 0) || (decide (r002 < 0)))) (r := decide (r012 < r002)) rfl rfl (fun hb => gd_of (c := !((r13 != 0) || (decide (r002 < 0)))) (by first | exact hb | (rw [hb]; rfl) | simp_all) (B (decide (r012 < r002))))) ?_
 refine s_val (x_mv (v := B (((r13 != 0) || (decide (r002 < 0))) || (decide (r012 < r002)))) rfl) ?_
 refine g_val (!(((r13 != 0) || (decide (r002 < 0))) || (decide (r012 < r002)))) (gy_f rfl) (fun hg => x_fa (a := .pointer (some ⟨b_8, 0, none⟩)) (v := .pointer (some ⟨b_8, 1, none⟩)) rfl (fa_blk (o := 0) Fd35_1 Sz3)) ?_
 refine g_val (!(((r13 != 0) || (decide (r002 < 0))) || (decide (r012 < r002)))) (gy_f rfl) (fun hg => x_ld (p := .pointer (some ⟨b_8, 1, none⟩)) (v := I r012) (gd_of (c := !(((r13 != 0) || (decide (r002 < 0))) || (decide (r012 < r002)))) hg (.pointer (some ⟨b_8, 1, none⟩))) (ldb_sc Sc3 (H.blk (k := 0) rfl) rfl)) ?_
 refine g_val (!(((r13 != 0) || (decide (r002 < 0))) || (decide (r012 < r002)))) (gy_f rfl) (fun hg => x_mv (v := I ((r02 + r3) + r4)) rfl) ?_
 refine g_val (!(((r13 != 0) || (decide (r002 < 0))) || (decide (r012 < r002)))) (gy_f rfl) (fun hg => x_mv (v := I (r02 + r3)) rfl) ?_
 obtain ⟨sd36z, hM⟩ := M.e_grd hM
 replace sd36z := M.imp_of sd36z
 simp only [Bool.and_eq_true, decide_eq_true_eq] at sd36z
 refine g_val (!(((r13 != 0) || (decide (r002 < 0))) || (decide (r012 < r002)))) (gy_f rfl) (fun hg => x_ari (a := (r02 + r3) + r4) (b := r02 + r3) (r := ((r02 + r3) + r4) - (r02 + r3)) (gd_of (c := !(((r13 != 0) || (decide (r002 < 0))) || (decide (r012 < r002)))) hg (I ((r02 + r3) + r4))) (gd_of (c := !(((r13 != 0) || (decide (r002 < 0))) || (decide (r012 < r002)))) hg (I (r02 + r3))) rfl (by have h1_ := sd36z.resolve_left (by rw [hg]; decide); first | exact h1_ | exact h1_.1 | exact h1_.2 | omega | (have hx_ := hg; simp at hx_; omega))) ?_
 obtain ⟨sd37z, hM⟩ := M.e_grd hM
 replace sd37z := M.imp_of sd37z
 simp only [Bool.and_eq_true, decide_eq_true_eq] at sd37z
 refine g_val (!(((r13 != 0) || (decide (r002 < 0))) || (decide (r012 < r002)))) (gy_f rfl) (fun hg => x_ari (a := ((r02 + r3) + r4) - (r02 + r3)) (b := 1) (r := (((r02 + r3) + r4) - (r02 + r3)) + 1) (gd_of (c := !(((r13 != 0) || (decide (r002 < 0))) || (decide (r012 < r002)))) hg (I (((r02 + r3) + r4) - (r02 + r3)))) rfl rfl (by have h1_ := sd36z.resolve_left (by rw [hg]; decide); have h2_ := sd37z.resolve_left (by rw [hg]; decide); first | exact h1_ | exact h1_.1 | exact h1_.2 | exact h2_ | exact h2_.1 | exact h2_.2 | omega | (have hx_ := hg; simp at hx_; omega))) ?_
 refine g_val (!(((r13 != 0) || (decide (r002 < 0))) || (decide (r012 < r002)))) (gy_f rfl) (fun hg => x_cmp (kd := .i64) (a := r012) (b := (((r02 + r3) + r4) - (r02 + r3)) + 1) (r := decide (((((r02 + r3) + r4) - (r02 + r3)) + 1) < r012)) (gd_of (c := !(((r13 != 0) || (decide (r002 < 0))) || (decide (r012 < r002)))) hg (I r012)) (gd_of (c := !(((r13 != 0) || (decide (r002 < 0))) || (decide (r012 < r002)))) hg (I ((((r02 + r3) + r4) - (r02 + r3)) + 1))) rfl) ?_
 refine s_val (x_por (b := (((r13 != 0) || (decide (r002 < 0))) || (decide (r012 < r002)))) (r := decide (((((r02 + r3) + r4) - (r02 + r3)) + 1) < r012)) rfl rfl (fun hb => gd_of (c := !(((r13 != 0) || (decide (r002 < 0))) || (decide (r012 < r002)))) (by first | exact hb | (rw [hb]; rfl) | simp_all) (B (decide (((((r02 + r3) + r4) - (r02 + r3)) + 1) < r012))))) ?_
 refine s_nil ?_
 refine W.cond ((((r13 != 0) || (decide (r002 < 0))) || (decide (r012 < r002))) || (decide (((((r02 + r3) + r4) - (r02 + r3)) + 1) < r012))) rfl (fun c38z => ?_) (fun c38z => ?_)
 ·replace hM := M.e_t hM c38z
  refine W.seq ?_
  refine W.region rfl ?_
  refine s_val (x_as (v := B false) rfl) ?_
  refine s_nil ?_
  refine W.ret ?_
  have hr_ := M.e_pure hM
  exact ⟨_, resE_tmp rfl, ⟨false, hr_, rfl, (H.pick [] (by decide) rfl)⟩⟩
 replace hM := M.e_f hM c38z
 refine W.skip ?_
 refine W.seq ?_
 refine W.seq ?_
 refine W.region rfl ?_
 refine t_bs (α := Bool) T90 [B false, B true] [false, true] H rfl (.cons rfl (Flat.rep_enc _ false) <| .cons rfl (Flat.rep_enc _ true) <| .nil) rfl rfl rfl ?_
 intro v39z w40z H
 have hl41z := ((ownSl (H.get (k := 0) rfl))).len_le
 refine s_val (x_lenS T90.und rfl (ownSl (H.get (k := 0) rfl))) ?_
 refine s_val (x_mv (v := I 0) rfl) ?_
 refine s_nil ?_
 refine W.block ?_
 obtain ⟨ex42z, hi43z, hk44z⟩ := M.e_bind hM
 obtain ⟨m0_, hi43z⟩ := M.e_iter hi43z
 refine W.loop (fun m σ W => ∃ (s : Nat) (ρ : Env), σ = upds ρ [(4, I more), (11, .pointer (some ⟨b_7, 0, none⟩)), (12, u4_6), (13, I (r02 + r3)), (14, I ((r02 + r3) + r4)), (15, I r5), (16, .pointer (some ⟨b_8, 0, none⟩)), (88, v39z), (89, I (([false, true]).length : Int)), (90, I (s : Int))] /\ M.iterN (zau r00 r01 r02 r03 r12 r3 r4 r5 r002 r012) m s = some ex42z /\ St w W [cOwn (α := Bool) 4 v39z ([false, true]), cBlk b_8 [I r002, I r012] 35, cBlk b_7 [u0_2, u1_3, I r02, I r03] 26, cOwn (α := Yr) 41 u0_2 r00, cOwn (α := Raw 3) 43 u1_3 rr2_4, cRo Bs3_5, cOwn (α := Int) 3 u4_6 r12, cBlk nb0_1 [v_numbers, I q1, I q2] 101] R) ?_ ?_
 ·exact ⟨_, 0, _, upds_of _ _ ⟨rfl, rfl, rfl, rfl, rfl, rfl, rfl, rfl, rfl, rfl, trivial⟩, hi43z, H⟩
 rintro m47z σ w45z ⟨s, ρ, rfl, hI46z, H⟩
 obtain ⟨m48z, lt49z, x50z, hM, hN51z⟩ := M.e_iterN hI46z
 simp only [zau] at hM
 clear hI46z
 refine W.seq ?_
 refine W.region rfl ?_
 refine s_val (x_cmp (kd := .i64) (a := (s : Int)) (b := (([false, true]).length : Int)) (r := decide ((s : Int) < (([false, true]).length : Int))) rfl rfl rfl) ?_
 refine s_nil ?_
 refine W.seq ?_
 refine W.cond (decide ((s : Int) < (([false, true]).length : Int))) rfl (fun c52z => ?_) (fun c52z => ?_)
 ·replace hM := M.e_t hM c52z
  simp only [decide_eq_true_eq, decide_eq_false_iff_not, beq_iff_eq, bne_iff_ne, beq_eq_false_iff_ne, bne_eq_false_iff_eq, ne_eq, Decidable.not_not] at c52z
  refine W.skip ?_
  refine W.seq ?_
  refine W.block ?_
  refine W.seq ?_
  refine W.region rfl ?_
  obtain ⟨sd53z, hM⟩ := M.e_grd hM
  simp only [Bool.and_eq_true, decide_eq_true_eq] at sd53z
  refine s_val (x_ix (a := v39z) (b := I (s : Int)) (v := vat v39z 1 (Int.toNat (s : Int))) rfl rfl (Sl.ix (α := Bool) T90.und T90.size (ownSl (H.get (k := 0) rfl)) (by omega) (by omega))) ?_
  refine s_val (x_ld (p := vat v39z 1 (Int.toNat (s : Int))) (v := B (([false, true]).getD s false)) rfl (ld_sc Sc4 (At.mono (Bool_at (ownSl (H.get (k := 0) rfl)) (i := (s : Int)) (by omega) (by omega)) (ownLe _ (H.get (k := 0) rfl))))) ?_
  refine s_val (x_as (v := B (([false, true]).getD s false)) rfl) ?_
  refine s_nil ?_
  refine W.seq ?_
  refine W.region rfl ?_
  refine s_val (x_ld (p := .pointer (some ⟨b_7, 0, none⟩)) (v := .agg #[u0_2, u1_3, I r02, I r03]) rfl (ldb_ag (ds := [u0_2, u1_3, I r02, I r03]) Ag26 Sz26 (H.blk (k := 2) rfl) rfl rfl)) ?_
  refine s_val (x_mv (v := I (r02 + r3)) rfl) ?_
  refine s_val (x_mv (v := I ((r02 + r3) + r4)) rfl) ?_
  refine s_val (x_mv (v := I r5) rfl) ?_
  refine s_val (x_mv (v := B (([false, true]).getD s false)) rfl) ?_
  obtain ⟨r55z, hx54z, hM⟩ := M.e_bind hM
  refine s_call cf24 [.agg #[u0_2, u1_3, I r02, I r03], I (r02 + r3), I ((r02 + r3) + r4), I r5, B (([false, true]).getD s false)] rfl (zcs r00 r01 r02 r03 (r02 + r3) ((r02 + r3) + r4) r5 (([false, true]).getD s false) (Reads.of (k := 3) rfl ownLe) (ownSl (H.get (k := 3) rfl)) (Reads.sup (Reads.of (k := 4) rfl ownLe) (Reads.of (k := 5) rfl roLe)) (rowSl rfl (H.get (k := 4) rfl) (roLe _ (H.get (k := 5) rfl)) hf9z) hx54z _ (St.give (T := [cOwn (α := Bool) 4 v39z ([false, true]), cBlk b_8 [I r002, I r012] 35, cBlk b_7 [u0_2, u1_3, I r02, I r03] 26, cOwn (α := Yr) 41 u0_2 r00, cOwn (α := Raw 3) 43 u1_3 rr2_4, cRo Bs3_5, cOwn (α := Int) 3 u4_6 r12, cBlk nb0_1 [v_numbers, I q1, I q2] 101]) H rfl)) ?_
  rintro vq w56z ⟨r0, r14, u0_10, hr57z, hvq, H2_⟩
  subst hr57z
  subst vq
  try dsimp only at hM
  replace H : St w w56z [cOwn (α := Int) 3 u0_10 r0, cOwn (α := Bool) 4 v39z ([false, true]), cBlk b_8 [I r002, I r012] 35, cBlk b_7 [u0_2, u1_3, I r02, I r03] 26, cOwn (α := Yr) 41 u0_2 r00, cOwn (α := Raw 3) 43 u1_3 rr2_4, cRo Bs3_5, cOwn (α := Int) 3 u4_6 r12, cBlk nb0_1 [v_numbers, I q1, I q2] 101] R := H.back H2_ rfl
  clear H2_
  refine s_val (x_mv (v := .tuple #[u0_10, I r14]) rfl) ?_
  refine s_val (x_ext (vs := [u0_10, I r14]) (v := u0_10) rfl rfl) ?_
  refine s_val (x_ext (vs := [u0_10, I r14]) (v := I r14) rfl rfl) ?_
  refine s_val (x_as (v := u0_10) rfl) ?_
  refine s_val (x_as (v := I r14) rfl) ?_
  refine s_nil ?_
  refine W.seq ?_
  refine W.seq ?_
  refine W.region rfl ?_
  refine s_val (x_mv (v := I r14) rfl) ?_
  refine s_val (x_cmp (kd := .i64) (a := r14) (b := 0) (r := r14 != 0) rfl rfl rfl) ?_
  refine s_val (x_mv (v := B (r14 != 0)) rfl) ?_
  refine g_val (!(r14 != 0)) (gy_f rfl) (fun hg => x_mv (v := u0_10) rfl) ?_
  refine g_val (!(r14 != 0)) (gy_f rfl) (fun hg => x_lenS T27.und (gd_of (c := !(r14 != 0)) hg (u0_10)) (ownSl (H.get (k := 0) rfl))) ?_
  refine g_val (!(r14 != 0)) (gy_f rfl) (fun hg => x_mv (v := u4_6) rfl) ?_
  refine g_val (!(r14 != 0)) (gy_f rfl) (fun hg => x_lenS T27.und (gd_of (c := !(r14 != 0)) hg (u4_6)) (ownSl (H.get (k := 7) rfl))) ?_
  refine g_val (!(r14 != 0)) (gy_f rfl) (fun hg => x_cmp (kd := .i64) (a := (r0.length : Int)) (b := (r12.length : Int)) (r := (r0.length : Int) != (r12.length : Int)) (gd_of (c := !(r14 != 0)) hg (I (r0.length : Int))) (gd_of (c := !(r14 != 0)) hg (I (r12.length : Int))) rfl) ?_
  refine s_val (x_por (b := r14 != 0) (r := (r0.length : Int) != (r12.length : Int)) rfl rfl (fun hb => gd_of (c := !(r14 != 0)) (by first | exact hb | (rw [hb]; rfl) | simp_all) (B ((r0.length : Int) != (r12.length : Int))))) ?_
  refine s_nil ?_
  refine W.cond ((r14 != 0) || ((r0.length : Int) != (r12.length : Int))) rfl (fun c60z => ?_) (fun c60z => ?_)
  ·replace hM := M.e_t hM c60z
   refine W.seq ?_
   refine W.region rfl ?_
   refine s_val (x_as (v := B false) rfl) ?_
   refine s_nil ?_
   refine W.ret ?_
   have hX61z := M.e_inr hM hN51z
   subst hX61z
   replace hM := hk44z
   try dsimp only at hM
   have hr_ := M.e_pure hM
   exact ⟨_, resE_tmp rfl, ⟨false, hr_, rfl, (H.pick [] (by decide) rfl)⟩⟩
  replace hM := M.e_f hM c60z
  refine W.skip ?_
  refine W.seq ?_
  refine W.region rfl ?_
  refine s_val (x_ld (p := .pointer (some ⟨b_7, 0, none⟩)) (v := .agg #[u0_2, u1_3, I r02, I r03]) rfl (ldb_ag (ds := [u0_2, u1_3, I r02, I r03]) Ag26 Sz26 (H.blk (k := 3) rfl) rfl rfl)) ?_
  refine s_val (x_mv (v := u0_10) rfl) ?_
  obtain ⟨r63z, hx62z, hM⟩ := M.e_bind hM
  refine s_call cf45 [.agg #[u0_2, u1_3, I r02, I r03], u0_10] rfl (zcx r00 r01 r02 r03 r0 (Reads.of (k := 4) rfl ownLe) (ownSl (H.get (k := 4) rfl)) (Reads.sup (Reads.of (k := 5) rfl ownLe) (Reads.of (k := 6) rfl roLe)) (rowSl rfl (H.get (k := 5) rfl) (roLe _ (H.get (k := 6) rfl)) hf9z) (Reads.of (k := 0) rfl ownLe) (ownSl (H.get (k := 0) rfl)) hx62z _ (St.give (T := [cOwn (α := Int) 3 u0_10 r0, cOwn (α := Bool) 4 v39z ([false, true]), cBlk b_8 [I r002, I r012] 35, cBlk b_7 [u0_2, u1_3, I r02, I r03] 26, cOwn (α := Yr) 41 u0_2 r00, cOwn (α := Raw 3) 43 u1_3 rr2_4, cRo Bs3_5, cOwn (α := Int) 3 u4_6 r12, cBlk nb0_1 [v_numbers, I q1, I q2] 101]) H rfl)) ?_
  rintro vq w64z ⟨r04, r15, hr65z, hvq, H2_⟩
  subst hr65z
  subst vq
  try dsimp only at hM
  replace H : St w w64z [cOwn (α := Int) 3 u0_10 r0, cOwn (α := Bool) 4 v39z ([false, true]), cBlk b_8 [I r002, I r012] 35, cBlk b_7 [u0_2, u1_3, I r02, I r03] 26, cOwn (α := Yr) 41 u0_2 r00, cOwn (α := Raw 3) 43 u1_3 rr2_4, cRo Bs3_5, cOwn (α := Int) 3 u4_6 r12, cBlk nb0_1 [v_numbers, I q1, I q2] 101] R := H.back H2_ rfl
  clear H2_
  refine s_val (x_mv (v := .tuple #[B r04, I r15]) rfl) ?_
  refine s_val (x_ext (vs := [B r04, I r15]) (v := B r04) rfl rfl) ?_
  refine s_val (x_ext (vs := [B r04, I r15]) (v := I r15) rfl rfl) ?_
  refine s_val (x_as (v := B r04) rfl) ?_
  refine s_val (x_as (v := I r15) rfl) ?_
  refine s_nil ?_
  refine W.seq ?_
  refine W.region rfl ?_
  refine s_val (x_ld (p := .pointer (some ⟨b_7, 0, none⟩)) (v := .agg #[u0_2, u1_3, I r02, I r03]) rfl (ldb_ag (ds := [u0_2, u1_3, I r02, I r03]) Ag26 Sz26 (H.blk (k := 3) rfl) rfl rfl)) ?_
  refine s_val (x_mv (v := u0_10) rfl) ?_
  refine s_val (x_mv (v := I (r02 + r3)) rfl) ?_
  refine s_val (x_mv (v := I ((r02 + r3) + r4)) rfl) ?_
  refine s_val (x_mv (v := I r5) rfl) ?_
  obtain ⟨r67z, hx66z, hM⟩ := M.e_bind hM
  refine s_call cf46 [.agg #[u0_2, u1_3, I r02, I r03], u0_10, I (r02 + r3), I ((r02 + r3) + r4), I r5] rfl (zcg r00 r01 r02 r03 r0 (r02 + r3) ((r02 + r3) + r4) r5 (Reads.of (k := 4) rfl ownLe) (ownSl (H.get (k := 4) rfl)) (Reads.sup (Reads.of (k := 5) rfl ownLe) (Reads.of (k := 6) rfl roLe)) (rowSl rfl (H.get (k := 5) rfl) (roLe _ (H.get (k := 6) rfl)) hf9z) (Reads.of (k := 0) rfl ownLe) (ownSl (H.get (k := 0) rfl)) hx66z _ (St.give (T := [cOwn (α := Int) 3 u0_10 r0, cOwn (α := Bool) 4 v39z ([false, true]), cBlk b_8 [I r002, I r012] 35, cBlk b_7 [u0_2, u1_3, I r02, I r03] 26, cOwn (α := Yr) 41 u0_2 r00, cOwn (α := Raw 3) 43 u1_3 rr2_4, cRo Bs3_5, cOwn (α := Int) 3 u4_6 r12, cBlk nb0_1 [v_numbers, I q1, I q2] 101]) H rfl)) ?_
  rintro vq w68z ⟨r6, hr69z, hvq, H2_⟩
  subst hr69z
  subst vq
  try dsimp only at hM
  replace H : St w w68z [cOwn (α := Int) 3 u0_10 r0, cOwn (α := Bool) 4 v39z ([false, true]), cBlk b_8 [I r002, I r012] 35, cBlk b_7 [u0_2, u1_3, I r02, I r03] 26, cOwn (α := Yr) 41 u0_2 r00, cOwn (α := Raw 3) 43 u1_3 rr2_4, cRo Bs3_5, cOwn (α := Int) 3 u4_6 r12, cBlk nb0_1 [v_numbers, I q1, I q2] 101] R := H.back H2_ rfl
  clear H2_
  refine s_val (x_as (v := I r6) rfl) ?_
  refine s_nil ?_
  refine W.seq ?_
  refine W.region rfl ?_
  refine s_val (x_mv (v := I r15) rfl) ?_
  refine s_val (x_cmp (kd := .i64) (a := r15) (b := 0) (r := r15 != 0) rfl rfl rfl) ?_
  refine s_val (x_mv (v := B (r15 != 0)) rfl) ?_
  refine g_val (!(r15 != 0)) (gy_f rfl) (fun hg => x_mv (v := B r04) rfl) ?_
  refine g_val (!(r15 != 0)) (gy_f rfl) (fun hg => x_not (b := r04) (gd_of (c := !(r15 != 0)) hg (B r04))) ?_
  refine s_val (x_por (b := r15 != 0) (r := !r04) rfl rfl (fun hb => gd_of (c := !(r15 != 0)) (by first | exact hb | (rw [hb]; rfl) | simp_all) (B (!r04)))) ?_
  refine s_val (x_mv (v := B ((r15 != 0) || (!r04))) rfl) ?_
  refine g_val (!((r15 != 0) || (!r04))) (gy_f rfl) (fun hg => x_mv (v := B (([false, true]).getD s false)) rfl) ?_
  refine g_val (!((r15 != 0) || (!r04))) (gy_f rfl) (fun hg => x_mv (v := B (([false, true]).getD s false)) (gd_of (c := !((r15 != 0) || (!r04))) hg (B (([false, true]).getD s false)))) ?_
  refine g_val ((!((r15 != 0) || (!r04))) && (([false, true]).getD s false)) (gy_gt rfl rfl) (fun hg => x_mv (v := I r6) rfl) ?_
  refine g_val ((!((r15 != 0) || (!r04))) && (([false, true]).getD s false)) (gy_gt rfl rfl) (fun hg => x_fa (a := .pointer (some ⟨b_8, 0, none⟩)) (v := .pointer (some ⟨b_8, 1, none⟩)) rfl (fa_blk (o := 0) Fd35_1 Sz3)) ?_
  refine g_val ((!((r15 != 0) || (!r04))) && (([false, true]).getD s false)) (gy_gt rfl rfl) (fun hg => x_ld (p := .pointer (some ⟨b_8, 1, none⟩)) (v := I r012) (gd_of (c := ((!((r15 != 0) || (!r04))) && (([false, true]).getD s false))) hg (.pointer (some ⟨b_8, 1, none⟩))) (ldb_sc Sc3 (H.blk (k := 2) rfl) rfl)) ?_
  refine g_val ((!((r15 != 0) || (!r04))) && (([false, true]).getD s false)) (gy_gt rfl rfl) (fun hg => x_cmp (kd := .i64) (a := r6) (b := r012) (r := r6 != r012) (gd_of (c := ((!((r15 != 0) || (!r04))) && (([false, true]).getD s false))) hg (I r6)) (gd_of (c := ((!((r15 != 0) || (!r04))) && (([false, true]).getD s false))) hg (I r012)) rfl) ?_
  refine g_val (!((r15 != 0) || (!r04))) (gy_f rfl) (fun hg => x_pand (b := ([false, true]).getD s false) (r := r6 != r012) (gd_of (c := !((r15 != 0) || (!r04))) hg (B (([false, true]).getD s false))) (fun hb => gd_of (c := ((!((r15 != 0) || (!r04))) && (([false, true]).getD s false))) (by first | exact hb | (rw [hb]; rfl) | simp_all) (B (r6 != r012))) rfl) ?_
  refine s_val (x_por (b := ((r15 != 0) || (!r04))) (r := ((([false, true]).getD s false) && (r6 != r012))) rfl rfl (fun hb => gd_of (c := !((r15 != 0) || (!r04))) (by first | exact hb | (rw [hb]; rfl) | simp_all) (B ((([false, true]).getD s false) && (r6 != r012))))) ?_
  refine s_val (x_mv (v := B (((r15 != 0) || (!r04)) || ((([false, true]).getD s false) && (r6 != r012)))) rfl) ?_
  refine g_val (!(((r15 != 0) || (!r04)) || ((([false, true]).getD s false) && (r6 != r012)))) (gy_f rfl) (fun hg => x_mv (v := B (([false, true]).getD s false)) rfl) ?_
  refine g_val (!(((r15 != 0) || (!r04)) || ((([false, true]).getD s false) && (r6 != r012)))) (gy_f rfl) (fun hg => x_not (b := ([false, true]).getD s false) (gd_of (c := !(((r15 != 0) || (!r04)) || ((([false, true]).getD s false) && (r6 != r012)))) hg (B (([false, true]).getD s false)))) ?_
  refine g_val (!(((r15 != 0) || (!r04)) || ((([false, true]).getD s false) && (r6 != r012)))) (gy_f rfl) (fun hg => x_mv (v := B (!(([false, true]).getD s false))) (gd_of (c := !(((r15 != 0) || (!r04)) || ((([false, true]).getD s false) && (r6 != r012)))) hg (B (!(([false, true]).getD s false))))) ?_
  refine g_val ((!(((r15 != 0) || (!r04)) || ((([false, true]).getD s false) && (r6 != r012)))) && (!(([false, true]).getD s false))) (gy_gt rfl rfl) (fun hg => x_mv (v := I r6) rfl) ?_
  refine g_val ((!(((r15 != 0) || (!r04)) || ((([false, true]).getD s false) && (r6 != r012)))) && (!(([false, true]).getD s false))) (gy_gt rfl rfl) (fun hg => x_fa (a := .pointer (some ⟨b_8, 0, none⟩)) (v := .pointer (some ⟨b_8, 0, none⟩)) rfl (fa_blk (o := 0) Fd35_0 Sz3)) ?_
  refine g_val ((!(((r15 != 0) || (!r04)) || ((([false, true]).getD s false) && (r6 != r012)))) && (!(([false, true]).getD s false))) (gy_gt rfl rfl) (fun hg => x_ld (p := .pointer (some ⟨b_8, 0, none⟩)) (v := I r002) (gd_of (c := ((!(((r15 != 0) || (!r04)) || ((([false, true]).getD s false) && (r6 != r012)))) && (!(([false, true]).getD s false)))) hg (.pointer (some ⟨b_8, 0, none⟩))) (ldb_sc Sc3 (H.blk (k := 2) rfl) rfl)) ?_
  refine g_val ((!(((r15 != 0) || (!r04)) || ((([false, true]).getD s false) && (r6 != r012)))) && (!(([false, true]).getD s false))) (gy_gt rfl rfl) (fun hg => x_cmp (kd := .i64) (a := r6) (b := r002) (r := r6 != r002) (gd_of (c := ((!(((r15 != 0) || (!r04)) || ((([false, true]).getD s false) && (r6 != r012)))) && (!(([false, true]).getD s false)))) hg (I r6)) (gd_of (c := ((!(((r15 != 0) || (!r04)) || ((([false, true]).getD s false) && (r6 != r012)))) && (!(([false, true]).getD s false)))) hg (I r002)) rfl) ?_
  refine g_val (!(((r15 != 0) || (!r04)) || ((([false, true]).getD s false) && (r6 != r012)))) (gy_f rfl) (fun hg => x_pand (b := !(([false, true]).getD s false)) (r := r6 != r002) (gd_of (c := !(((r15 != 0) || (!r04)) || ((([false, true]).getD s false) && (r6 != r012)))) hg (B (!(([false, true]).getD s false)))) (fun hb => gd_of (c := ((!(((r15 != 0) || (!r04)) || ((([false, true]).getD s false) && (r6 != r012)))) && (!(([false, true]).getD s false)))) (by first | exact hb | (rw [hb]; rfl) | simp_all) (B (r6 != r002))) rfl) ?_
  refine s_val (x_por (b := (((r15 != 0) || (!r04)) || ((([false, true]).getD s false) && (r6 != r012)))) (r := ((!(([false, true]).getD s false)) && (r6 != r002))) rfl rfl (fun hb => gd_of (c := !(((r15 != 0) || (!r04)) || ((([false, true]).getD s false) && (r6 != r012)))) (by first | exact hb | (rw [hb]; rfl) | simp_all) (B ((!(([false, true]).getD s false)) && (r6 != r002))))) ?_
  refine s_nil ?_
  refine W.cond ((((r15 != 0) || (!r04)) || ((([false, true]).getD s false) && (r6 != r012))) || ((!(([false, true]).getD s false)) && (r6 != r002))) rfl (fun c70z => ?_) (fun c70z => ?_)
  ·replace hM := M.e_t hM c70z
   refine W.seq ?_
   refine W.region rfl ?_
   refine s_val (x_as (v := B false) rfl) ?_
   refine s_nil ?_
   refine W.ret ?_
   have hX71z := M.e_inr hM hN51z
   subst hX71z
   replace hM := hk44z
   try dsimp only at hM
   have hr_ := M.e_pure hM
   exact ⟨_, resE_tmp rfl, ⟨false, hr_, rfl, (H.pick [] (by decide) rfl)⟩⟩
  replace hM := M.e_f hM c70z
  refine W.skip ?_
  refine W.region rfl ?_
  obtain ⟨sd72z, hM⟩ := M.e_grd hM
  simp only [Bool.and_eq_true, decide_eq_true_eq] at sd72z
  refine s_val (x_ari (a := (s : Int)) (b := 1) (r := (s : Int) + 1) rfl rfl rfl (by omega)) ?_
  refine s_val (x_mv (v := I ((s : Int) + 1)) rfl) ?_
  refine s_nil ?_
  exact ⟨m48z, lt49z, s + 1, _, upds_of _ _ ⟨rfl, rfl, rfl, rfl, rfl, rfl, rfl, rfl, rfl, rfl, trivial⟩, M.e_inl hM hN51z, (H.pick [1, 2, 3, 4, 5, 6, 7, 8] (by decide) rfl)⟩
 replace hM := M.e_f hM c52z
 simp only [decide_eq_true_eq, decide_eq_false_iff_not, beq_iff_eq, bne_iff_ne, beq_eq_false_iff_ne, bne_eq_false_iff_eq, ne_eq, Decidable.not_not] at c52z
 refine W.exit ?_
 have hX73z := M.e_inr hM hN51z
 subst hX73z
 replace hM := hk44z
 try dsimp only at hM
 refine W.seq ?_
 refine W.drawT (fun W => St w W [cOwn (α := Bool) 4 v39z ([false, true]), cBlk b_8 [I r002, I r012] 35, cBlk b_7 [u0_2, u1_3, I r02, I r03] 26, cOwn (α := Yr) 41 u0_2 r00, cOwn (α := Raw 3) 43 u1_3 rr2_4, cRo Bs3_5, cOwn (α := Int) 3 u4_6 r12, cBlk nb0_1 [v_numbers, I q1, I q2] 101] R) (.q 0 (.q 1 (.q 2 (.q 3 (.q 4 (.l2 5 (.q 6 (.q 7 (.l2 8 (.q 9 (.q 10 (.q 11 (.l 12 (.l 13 (.q 14 .nil)))))) 12 (.l 8 (.q 9 (.q 10 (.q 11 (.l 13 (.q 14 .nil))))))))) 12 (.l 5 (.q 6 (.q 7 (.l 8 (.q 9 (.q 10 (.q 11 (.l 13 (.q 14 .nil))))))))))))))) mixed (by decide +kernel) rfl ?_
 intro w74z hx_
 replace H : St w w74z [cOwn (α := Bool) 4 v39z ([false, true]), cBlk b_8 [I r002, I r012] 35, cBlk b_7 [u0_2, u1_3, I r02, I r03] 26, cOwn (α := Yr) 41 u0_2 r00, cOwn (α := Raw 3) 43 u1_3 rr2_4, cRo Bs3_5, cOwn (α := Int) 3 u4_6 r12, cBlk nb0_1 [v_numbers, I q1, I q2] 101] R := H.ext hx_
 clear hx_
 refine ⟨(H.pick [0, 1, 2, 3, 4, 5, 6, 7] (by decide) rfl), ?_⟩
 refine t_q rfl (fun w' H => x_ld (p := .pointer (some ⟨b_7, 0, none⟩)) (v := .agg #[u0_2, u1_3, I r02, I r03]) rfl (ldb_ag (ds := [u0_2, u1_3, I r02, I r03]) Ag26 Sz26 (H.blk (k := 2) rfl) rfl rfl)) ?_
 refine t_q rfl (fun w' H => x_mv (v := I (r02 + r3)) rfl) ?_
 refine t_q rfl (fun w' H => x_mv (v := I ((r02 + r3) + r4)) rfl) ?_
 refine t_q rfl (fun w' H => x_mv (v := I r5) rfl) ?_
 refine t_q rfl (fun w' H => x_mv (v := I more) rfl) ?_
 refine t_l2 rfl rfl ?_ ?_
 ·skip
  obtain ⟨r92z, hx91z, hM⟩ := M.e_bind hM
  refine s_call cf13 [I more, I 400] rfl (za3 more 400 hx91z _ (St.give (T := [cOwn (α := Bool) 4 v39z ([false, true]), cBlk b_8 [I r002, I r012] 35, cBlk b_7 [u0_2, u1_3, I r02, I r03] 26, cOwn (α := Yr) 41 u0_2 r00, cOwn (α := Raw 3) 43 u1_3 rr2_4, cRo Bs3_5, cOwn (α := Int) 3 u4_6 r12, cBlk nb0_1 [v_numbers, I q1, I q2] 101]) H rfl)) ?_
  rintro vq w93z ⟨r7, hr94z, hvq, H2_⟩
  subst hr94z
  subst vq
  try dsimp only at hM
  replace H : St w w93z [cOwn (α := Bool) 4 v39z ([false, true]), cBlk b_8 [I r002, I r012] 35, cBlk b_7 [u0_2, u1_3, I r02, I r03] 26, cOwn (α := Yr) 41 u0_2 r00, cOwn (α := Raw 3) 43 u1_3 rr2_4, cRo Bs3_5, cOwn (α := Int) 3 u4_6 r12, cBlk nb0_1 [v_numbers, I q1, I q2] 101] R := H.back H2_ rfl
  clear H2_
  refine s_nil ⟨(H.pick [0, 1, 2, 3, 4, 5, 6, 7] (by decide) rfl), ?_⟩
  obtain ⟨sd95z, hM⟩ := M.e_grd hM
  simp only [Bool.and_eq_true, decide_eq_true_eq] at sd95z
  refine t_q rfl (fun w' H => x_ari (a := r5) (b := r7) (r := r5 + r7) rfl rfl rfl (by omega)) ?_
  refine t_q rfl (fun w' H => x_min (kd := .i64) (a := 2000) (b := r5 + r7) rfl rfl) ?_
  refine t_l2 rfl rfl ?_ ?_
  ·skip
   obtain ⟨r108z, hx107z, hM⟩ := M.e_bind hM
   refine s_call cf15 [.agg #[u0_2, u1_3, I r02, I r03], I (r02 + r3), I ((r02 + r3) + r4), I (min 2000 (r5 + r7))] rfl (zad r00 r01 r02 r03 (r02 + r3) ((r02 + r3) + r4) (min 2000 (r5 + r7)) (Reads.of (k := 3) rfl ownLe) (ownSl (H.get (k := 3) rfl)) (Reads.sup (Reads.of (k := 4) rfl ownLe) (Reads.of (k := 5) rfl roLe)) (rowSl rfl (H.get (k := 4) rfl) (roLe _ (H.get (k := 5) rfl)) hf9z) hx107z _ (St.give (T := [cOwn (α := Bool) 4 v39z ([false, true]), cBlk b_8 [I r002, I r012] 35, cBlk b_7 [u0_2, u1_3, I r02, I r03] 26, cOwn (α := Yr) 41 u0_2 r00, cOwn (α := Raw 3) 43 u1_3 rr2_4, cRo Bs3_5, cOwn (α := Int) 3 u4_6 r12, cBlk nb0_1 [v_numbers, I q1, I q2] 101]) H rfl)) ?_
   rintro vq w109z ⟨r003, r013, r16, hr110z, hvq, H2_⟩
   subst hr110z
   subst vq
   try dsimp only at hM
   replace H : St w w109z [cOwn (α := Bool) 4 v39z ([false, true]), cBlk b_8 [I r002, I r012] 35, cBlk b_7 [u0_2, u1_3, I r02, I r03] 26, cOwn (α := Yr) 41 u0_2 r00, cOwn (α := Raw 3) 43 u1_3 rr2_4, cRo Bs3_5, cOwn (α := Int) 3 u4_6 r12, cBlk nb0_1 [v_numbers, I q1, I q2] 101] R := H.back H2_ rfl
   clear H2_
   refine s_nil ⟨(H.pick [0, 1, 2, 3, 4, 5, 6, 7] (by decide) rfl), ?_⟩
   refine t_q rfl (fun w' H => x_mv (v := .tuple #[.agg #[I r003, I r013], I r16]) rfl) ?_
   refine t_q rfl (fun w' H => x_ext (vs := [.agg #[I r003, I r013], I r16]) (v := .agg #[I r003, I r013]) rfl rfl) ?_
   refine t_q rfl (fun w' H => x_ext (vs := [.agg #[I r003, I r013], I r16]) (v := I r16) rfl rfl) ?_
   refine t_l rfl ?_
   refine t_alloc (cs := [I 0, I 0]) H Al35 rfl ?_
   intro b_11 w111z H
   refine s_nil ⟨(H.pick [1, 2, 3, 4, 5, 6, 7, 8] (by decide) rfl), ?_⟩
   refine t_l rfl ?_
   refine t_st (k := 0) (b := b_11) (off := 0) (cs := [I 0, I 0]) (vs := [I r003, I r013]) (cs' := [I r003, I r013]) (v := .agg #[I r003, I r013]) (L' := [cBlk b_11 [I r003, I r013] 35, cOwn (α := Bool) 4 v39z ([false, true]), cBlk b_8 [I r002, I r012] 35, cBlk b_7 [u0_2, u1_3, I r02, I r03] 26, cOwn (α := Yr) 41 u0_2 r00, cOwn (α := Raw 3) 43 u1_3 rr2_4, cRo Bs3_5, cOwn (α := Int) 3 u4_6 r12, cBlk nb0_1 [v_numbers, I q1, I q2] 101]) H rfl rfl rfl Sz35 rfl rfl rfl rfl rfl rfl ?_
   intro w112z H
   refine s_nil ⟨(H.pick [1, 2, 3, 4, 5, 6, 7, 8] (by decide) rfl), ?_⟩
   refine t_q rfl (fun w' H => x_as (v := I r16) rfl) ?_
   refine t_nil ?_
   refine W.seq ?_
   refine W.seq ?_
   refine W.region rfl ?_
   refine s_val (x_mv (v := I r16) rfl) ?_
   refine s_val (x_cmp (kd := .i64) (a := r16) (b := 0) (r := r16 != 0) rfl rfl rfl) ?_
   refine s_val (x_mv (v := B (r16 != 0)) rfl) ?_
   refine g_val (!(r16 != 0)) (gy_f rfl) (fun hg => x_fa (a := .pointer (some ⟨b_11, 0, none⟩)) (v := .pointer (some ⟨b_11, 0, none⟩)) rfl (fa_blk (o := 0) Fd35_0 Sz3)) ?_
   refine g_val (!(r16 != 0)) (gy_f rfl) (fun hg => x_ld (p := .pointer (some ⟨b_11, 0, none⟩)) (v := I r003) (gd_of (c := !(r16 != 0)) hg (.pointer (some ⟨b_11, 0, none⟩))) (ldb_sc Sc3 (H.blk (k := 0) rfl) rfl)) ?_
   refine g_val (!(r16 != 0)) (gy_f rfl) (fun hg => x_fa (a := .pointer (some ⟨b_8, 0, none⟩)) (v := .pointer (some ⟨b_8, 0, none⟩)) rfl (fa_blk (o := 0) Fd35_0 Sz3)) ?_
   refine g_val (!(r16 != 0)) (gy_f rfl) (fun hg => x_ld (p := .pointer (some ⟨b_8, 0, none⟩)) (v := I r002) (gd_of (c := !(r16 != 0)) hg (.pointer (some ⟨b_8, 0, none⟩))) (ldb_sc Sc3 (H.blk (k := 2) rfl) rfl)) ?_
   refine g_val (!(r16 != 0)) (gy_f rfl) (fun hg => x_cmp (kd := .i64) (a := r003) (b := r002) (r := decide (r002 < r003)) (gd_of (c := !(r16 != 0)) hg (I r003)) (gd_of (c := !(r16 != 0)) hg (I r002)) rfl) ?_
   refine s_val (x_por (b := r16 != 0) (r := decide (r002 < r003)) rfl rfl (fun hb => gd_of (c := !(r16 != 0)) (by first | exact hb | (rw [hb]; rfl) | simp_all) (B (decide (r002 < r003))))) ?_
   refine s_val (x_mv (v := B ((r16 != 0) || (decide (r002 < r003)))) rfl) ?_
   refine g_val (!((r16 != 0) || (decide (r002 < r003)))) (gy_f rfl) (fun hg => x_fa (a := .pointer (some ⟨b_11, 0, none⟩)) (v := .pointer (some ⟨b_11, 1, none⟩)) rfl (fa_blk (o := 0) Fd35_1 Sz3)) ?_
   refine g_val (!((r16 != 0) || (decide (r002 < r003)))) (gy_f rfl) (fun hg => x_ld (p := .pointer (some ⟨b_11, 1, none⟩)) (v := I r013) (gd_of (c := !((r16 != 0) || (decide (r002 < r003)))) hg (.pointer (some ⟨b_11, 1, none⟩))) (ldb_sc Sc3 (H.blk (k := 0) rfl) rfl)) ?_
   refine g_val (!((r16 != 0) || (decide (r002 < r003)))) (gy_f rfl) (fun hg => x_fa (a := .pointer (some ⟨b_8, 0, none⟩)) (v := .pointer (some ⟨b_8, 1, none⟩)) rfl (fa_blk (o := 0) Fd35_1 Sz3)) ?_
   refine g_val (!((r16 != 0) || (decide (r002 < r003)))) (gy_f rfl) (fun hg => x_ld (p := .pointer (some ⟨b_8, 1, none⟩)) (v := I r012) (gd_of (c := !((r16 != 0) || (decide (r002 < r003)))) hg (.pointer (some ⟨b_8, 1, none⟩))) (ldb_sc Sc3 (H.blk (k := 2) rfl) rfl)) ?_
   refine g_val (!((r16 != 0) || (decide (r002 < r003)))) (gy_f rfl) (fun hg => x_cmp (kd := .i64) (a := r013) (b := r012) (r := decide (r012 < r013)) (gd_of (c := !((r16 != 0) || (decide (r002 < r003)))) hg (I r013)) (gd_of (c := !((r16 != 0) || (decide (r002 < r003)))) hg (I r012)) rfl) ?_
   refine s_val (x_por (b := ((r16 != 0) || (decide (r002 < r003)))) (r := decide (r012 < r013)) rfl rfl (fun hb => gd_of (c := !((r16 != 0) || (decide (r002 < r003)))) (by first | exact hb | (rw [hb]; rfl) | simp_all) (B (decide (r012 < r013))))) ?_
   refine s_nil ?_
   refine W.cond (((r16 != 0) || (decide (r002 < r003))) || (decide (r012 < r013))) rfl (fun c113z => ?_) (fun c113z => ?_)
   ·replace hM := M.e_t hM c113z
    refine W.seq ?_
    refine W.region rfl ?_
    refine s_val (x_as (v := B false) rfl) ?_
    refine s_nil ?_
    refine W.ret ?_
    have hr_ := M.e_pure hM
    exact ⟨_, resE_tmp rfl, ⟨false, hr_, rfl, (H.pick [] (by decide) rfl)⟩⟩
   replace hM := M.e_f hM c113z
   refine W.skip ?_
   refine W.seq ?_
   refine W.seq ?_
   refine W.region rfl ?_
   refine s_val (x_as (v := I 1) rfl) ?_
   refine s_nil ?_
   refine W.block ?_
   obtain ⟨ex114z, hi115z, hk116z⟩ := M.e_bind hM
   obtain ⟨m0_, hi115z⟩ := M.e_iter hi115z
   refine W.loop (fun m σ W => ∃ (times : Nat) (ρ : Env), σ = upds ρ [(11, .pointer (some ⟨b_7, 0, none⟩)), (13, I (r02 + r3)), (14, I ((r02 + r3) + r4)), (25, I (times : Int))] /\ M.iterN (zai r00 r01 r02 r03 r3 r4) m times = some ex114z /\ St w W [cBlk b_11 [I r003, I r013] 35, cOwn (α := Bool) 4 v39z ([false, true]), cBlk b_8 [I r002, I r012] 35, cBlk b_7 [u0_2, u1_3, I r02, I r03] 26, cOwn (α := Yr) 41 u0_2 r00, cOwn (α := Raw 3) 43 u1_3 rr2_4, cRo Bs3_5, cOwn (α := Int) 3 u4_6 r12, cBlk nb0_1 [v_numbers, I q1, I q2] 101] R) ?_ ?_
   ·exact ⟨_, 1, _, upds_of _ _ ⟨rfl, rfl, rfl, rfl, trivial⟩, hi115z, H⟩
   rintro m119z σ w117z ⟨times, ρ, rfl, hI118z, H⟩
   obtain ⟨m120z, lt121z, x122z, hM, hN123z⟩ := M.e_iterN hI118z
   simp only [zai] at hM
   clear hI118z
   refine W.seq ?_
   refine W.seq ?_
   refine W.region rfl ?_
   refine s_val (x_mv (v := I (times : Int)) rfl) ?_
   refine s_val (x_mv (v := I ((r02 + r3) + r4)) rfl) ?_
   refine s_val (x_mv (v := I (r02 + r3)) rfl) ?_
   obtain ⟨sd124z, hM⟩ := M.e_grd hM
   simp only [Bool.and_eq_true, decide_eq_true_eq] at sd124z
   refine s_val (x_ari (a := (r02 + r3) + r4) (b := r02 + r3) (r := ((r02 + r3) + r4) - (r02 + r3)) rfl rfl rfl (by omega)) ?_
   obtain ⟨sd125z, hM⟩ := M.e_grd hM
   simp only [Bool.and_eq_true, decide_eq_true_eq] at sd125z
   refine s_val (x_ari (a := ((r02 + r3) + r4) - (r02 + r3)) (b := 1) (r := (((r02 + r3) + r4) - (r02 + r3)) + 1) rfl rfl rfl (by omega)) ?_
   refine s_val (x_cmp (kd := .i64) (a := (times : Int)) (b := (((r02 + r3) + r4) - (r02 + r3)) + 1) (r := decide ((times : Int) <= ((((r02 + r3) + r4) - (r02 + r3)) + 1))) rfl rfl rfl) ?_
   refine s_nil ?_
   refine W.cond (decide ((times : Int) <= ((((r02 + r3) + r4) - (r02 + r3)) + 1))) rfl (fun c126z => ?_) (fun c126z => ?_)
   ·replace hM := M.e_t hM c126z
    simp only [decide_eq_true_eq, decide_eq_false_iff_not, beq_iff_eq, bne_iff_ne, beq_eq_false_iff_ne, bne_eq_false_iff_eq, ne_eq, Decidable.not_not] at c126z
    refine W.skip ?_
    refine W.seq ?_
    refine W.block ?_
    refine W.seq ?_
    refine W.region rfl ?_
    refine s_val (x_ld (p := .pointer (some ⟨b_7, 0, none⟩)) (v := .agg #[u0_2, u1_3, I r02, I r03]) rfl (ldb_ag (ds := [u0_2, u1_3, I r02, I r03]) Ag26 Sz26 (H.blk (k := 3) rfl) rfl rfl)) ?_
    refine s_val (x_mv (v := I (r02 + r3)) rfl) ?_
    refine s_val (x_mv (v := I ((r02 + r3) + r4)) rfl) ?_
    refine s_val (x_mv (v := I (times : Int)) rfl) ?_
    obtain ⟨r128z, hx127z, hM⟩ := M.e_bind hM
    refine s_call cf17 [.agg #[u0_2, u1_3, I r02, I r03], I (r02 + r3), I ((r02 + r3) + r4), I (times : Int)] rfl (zbg r00 r01 r02 r03 (r02 + r3) ((r02 + r3) + r4) (times : Int) (Reads.of (k := 4) rfl ownLe) (ownSl (H.get (k := 4) rfl)) (Reads.sup (Reads.of (k := 5) rfl ownLe) (Reads.of (k := 6) rfl roLe)) (rowSl rfl (H.get (k := 5) rfl) (roLe _ (H.get (k := 6) rfl)) hf9z) hx127z _ (St.give (T := [cBlk b_11 [I r003, I r013] 35, cOwn (α := Bool) 4 v39z ([false, true]), cBlk b_8 [I r002, I r012] 35, cBlk b_7 [u0_2, u1_3, I r02, I r03] 26, cOwn (α := Yr) 41 u0_2 r00, cOwn (α := Raw 3) 43 u1_3 rr2_4, cRo Bs3_5, cOwn (α := Int) 3 u4_6 r12, cBlk nb0_1 [v_numbers, I q1, I q2] 101]) H rfl)) ?_
    rintro vq w129z ⟨r004, r014, r17, hr130z, hvq, H2_⟩
    subst hr130z
    subst vq
    try dsimp only at hM
    replace H : St w w129z [cBlk b_11 [I r003, I r013] 35, cOwn (α := Bool) 4 v39z ([false, true]), cBlk b_8 [I r002, I r012] 35, cBlk b_7 [u0_2, u1_3, I r02, I r03] 26, cOwn (α := Yr) 41 u0_2 r00, cOwn (α := Raw 3) 43 u1_3 rr2_4, cRo Bs3_5, cOwn (α := Int) 3 u4_6 r12, cBlk nb0_1 [v_numbers, I q1, I q2] 101] R := H.back H2_ rfl
    clear H2_
    refine s_val (x_mv (v := .tuple #[.agg #[I r004, I r014], I r17]) rfl) ?_
    refine s_val (x_ext (vs := [.agg #[I r004, I r014], I r17]) (v := .agg #[I r004, I r014]) rfl rfl) ?_
    refine s_val (x_ext (vs := [.agg #[I r004, I r014], I r17]) (v := I r17) rfl rfl) ?_
    refine t_alloc (cs := [I 0, I 0]) H Al35 rfl ?_
    intro b_12 w131z H
    refine t_st (k := 0) (b := b_12) (off := 0) (cs := [I 0, I 0]) (vs := [I r004, I r014]) (cs' := [I r004, I r014]) (v := .agg #[I r004, I r014]) (L' := [cBlk b_12 [I r004, I r014] 35, cBlk b_11 [I r003, I r013] 35, cOwn (α := Bool) 4 v39z ([false, true]), cBlk b_8 [I r002, I r012] 35, cBlk b_7 [u0_2, u1_3, I r02, I r03] 26, cOwn (α := Yr) 41 u0_2 r00, cOwn (α := Raw 3) 43 u1_3 rr2_4, cRo Bs3_5, cOwn (α := Int) 3 u4_6 r12, cBlk nb0_1 [v_numbers, I q1, I q2] 101]) H rfl rfl rfl Sz35 rfl rfl rfl rfl rfl rfl ?_
    intro w132z H
    refine s_val (x_as (v := I r17) rfl) ?_
    refine s_nil ?_
    refine W.seq ?_
    refine W.seq ?_
    refine W.region rfl ?_
    refine s_val (x_mv (v := I r17) rfl) ?_
    refine s_val (x_cmp (kd := .i64) (a := r17) (b := 0) (r := r17 != 0) rfl rfl rfl) ?_
    refine s_val (x_mv (v := B (r17 != 0)) rfl) ?_
    refine g_val (!(r17 != 0)) (gy_f rfl) (fun hg => x_fa (a := .pointer (some ⟨b_12, 0, none⟩)) (v := .pointer (some ⟨b_12, 0, none⟩)) rfl (fa_blk (o := 0) Fd35_0 Sz3)) ?_
    refine g_val (!(r17 != 0)) (gy_f rfl) (fun hg => x_ld (p := .pointer (some ⟨b_12, 0, none⟩)) (v := I r004) (gd_of (c := !(r17 != 0)) hg (.pointer (some ⟨b_12, 0, none⟩))) (ldb_sc Sc3 (H.blk (k := 0) rfl) rfl)) ?_
    refine g_val (!(r17 != 0)) (gy_f rfl) (fun hg => x_fa (a := .pointer (some ⟨b_12, 0, none⟩)) (v := .pointer (some ⟨b_12, 1, none⟩)) rfl (fa_blk (o := 0) Fd35_1 Sz3)) ?_
    refine g_val (!(r17 != 0)) (gy_f rfl) (fun hg => x_ld (p := .pointer (some ⟨b_12, 1, none⟩)) (v := I r014) (gd_of (c := !(r17 != 0)) hg (.pointer (some ⟨b_12, 1, none⟩))) (ldb_sc Sc3 (H.blk (k := 0) rfl) rfl)) ?_
    refine g_val (!(r17 != 0)) (gy_f rfl) (fun hg => x_cmp (kd := .i64) (a := r004) (b := r014) (r := decide (r014 < r004)) (gd_of (c := !(r17 != 0)) hg (I r004)) (gd_of (c := !(r17 != 0)) hg (I r014)) rfl) ?_
    refine s_val (x_por (b := r17 != 0) (r := decide (r014 < r004)) rfl rfl (fun hb => gd_of (c := !(r17 != 0)) (by first | exact hb | (rw [hb]; rfl) | simp_all) (B (decide (r014 < r004))))) ?_
    refine s_nil ?_
    refine W.cond ((r17 != 0) || (decide (r014 < r004))) rfl (fun c133z => ?_) (fun c133z => ?_)
    ·replace hM := M.e_t hM c133z
     refine W.seq ?_
     refine W.region rfl ?_
     refine s_val (x_as (v := B false) rfl) ?_
     refine s_nil ?_
     refine W.ret ?_
     have hX134z := M.e_inr hM hN123z
     subst hX134z
     replace hM := hk116z
     try dsimp only at hM
     have hr_ := M.e_pure hM
     exact ⟨_, resE_tmp rfl, ⟨false, hr_, rfl, (H.pick [] (by decide) rfl)⟩⟩
    replace hM := M.e_f hM c133z
    refine W.skip ?_
    refine W.seq ?_
    refine W.region rfl ?_
    refine s_val (x_ld (p := .pointer (some ⟨b_7, 0, none⟩)) (v := .agg #[u0_2, u1_3, I r02, I r03]) rfl (ldb_ag (ds := [u0_2, u1_3, I r02, I r03]) Ag26 Sz26 (H.blk (k := 4) rfl) rfl rfl)) ?_
    refine s_val (x_mv (v := I (r02 + r3)) rfl) ?_
    refine s_val (x_mv (v := I ((r02 + r3) + r4)) rfl) ?_
    refine s_val (x_fa (a := .pointer (some ⟨b_12, 0, none⟩)) (v := .pointer (some ⟨b_12, 0, none⟩)) rfl (fa_blk (o := 0) Fd35_0 Sz3)) ?_
    refine s_val (x_ld (p := .pointer (some ⟨b_12, 0, none⟩)) (v := I r004) rfl (ldb_sc Sc3 (H.blk (k := 0) rfl) rfl)) ?_
    obtain ⟨r136z, hx135z, hM⟩ := M.e_bind hM
    refine s_call cf15 [.agg #[u0_2, u1_3, I r02, I r03], I (r02 + r3), I ((r02 + r3) + r4), I r004] rfl (zad r00 r01 r02 r03 (r02 + r3) ((r02 + r3) + r4) r004 (Reads.of (k := 5) rfl ownLe) (ownSl (H.get (k := 5) rfl)) (Reads.sup (Reads.of (k := 6) rfl ownLe) (Reads.of (k := 7) rfl roLe)) (rowSl rfl (H.get (k := 6) rfl) (roLe _ (H.get (k := 7) rfl)) hf9z) hx135z _ (St.give (T := [cBlk b_12 [I r004, I r014] 35, cBlk b_11 [I r003, I r013] 35, cOwn (α := Bool) 4 v39z ([false, true]), cBlk b_8 [I r002, I r012] 35, cBlk b_7 [u0_2, u1_3, I r02, I r03] 26, cOwn (α := Yr) 41 u0_2 r00, cOwn (α := Raw 3) 43 u1_3 rr2_4, cRo Bs3_5, cOwn (α := Int) 3 u4_6 r12, cBlk nb0_1 [v_numbers, I q1, I q2] 101]) H rfl)) ?_
    rintro vq w137z ⟨r005, r015, r18, hr138z, hvq, H2_⟩
    subst hr138z
    subst vq
    try dsimp only at hM
    replace H : St w w137z [cBlk b_12 [I r004, I r014] 35, cBlk b_11 [I r003, I r013] 35, cOwn (α := Bool) 4 v39z ([false, true]), cBlk b_8 [I r002, I r012] 35, cBlk b_7 [u0_2, u1_3, I r02, I r03] 26, cOwn (α := Yr) 41 u0_2 r00, cOwn (α := Raw 3) 43 u1_3 rr2_4, cRo Bs3_5, cOwn (α := Int) 3 u4_6 r12, cBlk nb0_1 [v_numbers, I q1, I q2] 101] R := H.back H2_ rfl
    clear H2_
    refine s_val (x_mv (v := .tuple #[.agg #[I r005, I r015], I r18]) rfl) ?_
    refine s_val (x_ext (vs := [.agg #[I r005, I r015], I r18]) (v := .agg #[I r005, I r015]) rfl rfl) ?_
    refine s_val (x_ext (vs := [.agg #[I r005, I r015], I r18]) (v := I r18) rfl rfl) ?_
    refine t_alloc (cs := [I 0, I 0]) H Al35 rfl ?_
    intro b_13 w139z H
    refine t_st (k := 0) (b := b_13) (off := 0) (cs := [I 0, I 0]) (vs := [I r005, I r015]) (cs' := [I r005, I r015]) (v := .agg #[I r005, I r015]) (L' := [cBlk b_13 [I r005, I r015] 35, cBlk b_12 [I r004, I r014] 35, cBlk b_11 [I r003, I r013] 35, cOwn (α := Bool) 4 v39z ([false, true]), cBlk b_8 [I r002, I r012] 35, cBlk b_7 [u0_2, u1_3, I r02, I r03] 26, cOwn (α := Yr) 41 u0_2 r00, cOwn (α := Raw 3) 43 u1_3 rr2_4, cRo Bs3_5, cOwn (α := Int) 3 u4_6 r12, cBlk nb0_1 [v_numbers, I q1, I q2] 101]) H rfl rfl rfl Sz35 rfl rfl rfl rfl rfl rfl ?_
    intro w140z H
    refine s_val (x_as (v := I r18) rfl) ?_
    refine s_nil ?_
    refine W.seq ?_
    refine W.region rfl ?_
    refine s_val (x_ld (p := .pointer (some ⟨b_7, 0, none⟩)) (v := .agg #[u0_2, u1_3, I r02, I r03]) rfl (ldb_ag (ds := [u0_2, u1_3, I r02, I r03]) Ag26 Sz26 (H.blk (k := 5) rfl) rfl rfl)) ?_
    refine s_val (x_mv (v := I (r02 + r3)) rfl) ?_
    refine s_val (x_mv (v := I ((r02 + r3) + r4)) rfl) ?_
    refine s_val (x_fa (a := .pointer (some ⟨b_12, 0, none⟩)) (v := .pointer (some ⟨b_12, 1, none⟩)) rfl (fa_blk (o := 0) Fd35_1 Sz3)) ?_
    refine s_val (x_ld (p := .pointer (some ⟨b_12, 1, none⟩)) (v := I r014) rfl (ldb_sc Sc3 (H.blk (k := 1) rfl) rfl)) ?_
    obtain ⟨r142z, hx141z, hM⟩ := M.e_bind hM
    refine s_call cf15 [.agg #[u0_2, u1_3, I r02, I r03], I (r02 + r3), I ((r02 + r3) + r4), I r014] rfl (zad r00 r01 r02 r03 (r02 + r3) ((r02 + r3) + r4) r014 (Reads.of (k := 6) rfl ownLe) (ownSl (H.get (k := 6) rfl)) (Reads.sup (Reads.of (k := 7) rfl ownLe) (Reads.of (k := 8) rfl roLe)) (rowSl rfl (H.get (k := 7) rfl) (roLe _ (H.get (k := 8) rfl)) hf9z) hx141z _ (St.give (T := [cBlk b_13 [I r005, I r015] 35, cBlk b_12 [I r004, I r014] 35, cBlk b_11 [I r003, I r013] 35, cOwn (α := Bool) 4 v39z ([false, true]), cBlk b_8 [I r002, I r012] 35, cBlk b_7 [u0_2, u1_3, I r02, I r03] 26, cOwn (α := Yr) 41 u0_2 r00, cOwn (α := Raw 3) 43 u1_3 rr2_4, cRo Bs3_5, cOwn (α := Int) 3 u4_6 r12, cBlk nb0_1 [v_numbers, I q1, I q2] 101]) H rfl)) ?_
    rintro vq w143z ⟨r006, r016, r19, hr144z, hvq, H2_⟩
    subst hr144z
    subst vq
    try dsimp only at hM
    replace H : St w w143z [cBlk b_13 [I r005, I r015] 35, cBlk b_12 [I r004, I r014] 35, cBlk b_11 [I r003, I r013] 35, cOwn (α := Bool) 4 v39z ([false, true]), cBlk b_8 [I r002, I r012] 35, cBlk b_7 [u0_2, u1_3, I r02, I r03] 26, cOwn (α := Yr) 41 u0_2 r00, cOwn (α := Raw 3) 43 u1_3 rr2_4, cRo Bs3_5, cOwn (α := Int) 3 u4_6 r12, cBlk nb0_1 [v_numbers, I q1, I q2] 101] R := H.back H2_ rfl
    clear H2_
    refine s_val (x_mv (v := .tuple #[.agg #[I r006, I r016], I r19]) rfl) ?_
    refine s_val (x_ext (vs := [.agg #[I r006, I r016], I r19]) (v := .agg #[I r006, I r016]) rfl rfl) ?_
    refine s_val (x_ext (vs := [.agg #[I r006, I r016], I r19]) (v := I r19) rfl rfl) ?_
    refine t_alloc (cs := [I 0, I 0]) H Al35 rfl ?_
    intro b_14 w145z H
    refine t_st (k := 0) (b := b_14) (off := 0) (cs := [I 0, I 0]) (vs := [I r006, I r016]) (cs' := [I r006, I r016]) (v := .agg #[I r006, I r016]) (L' := [cBlk b_14 [I r006, I r016] 35, cBlk b_13 [I r005, I r015] 35, cBlk b_12 [I r004, I r014] 35, cBlk b_11 [I r003, I r013] 35, cOwn (α := Bool) 4 v39z ([false, true]), cBlk b_8 [I r002, I r012] 35, cBlk b_7 [u0_2, u1_3, I r02, I r03] 26, cOwn (α := Yr) 41 u0_2 r00, cOwn (α := Raw 3) 43 u1_3 rr2_4, cRo Bs3_5, cOwn (α := Int) 3 u4_6 r12, cBlk nb0_1 [v_numbers, I q1, I q2] 101]) H rfl rfl rfl Sz35 rfl rfl rfl rfl rfl rfl ?_
    intro w146z H
    refine s_val (x_as (v := I r19) rfl) ?_
    refine s_nil ?_
    refine W.seq ?_
    refine W.seq ?_
    refine W.region rfl ?_
    refine s_val (x_mv (v := I r18) rfl) ?_
    refine s_val (x_cmp (kd := .i64) (a := r18) (b := 0) (r := r18 != 0) rfl rfl rfl) ?_
    refine s_val (x_mv (v := B (r18 != 0)) rfl) ?_
    refine g_val (!(r18 != 0)) (gy_f rfl) (fun hg => x_mv (v := I r19) rfl) ?_
    refine g_val (!(r18 != 0)) (gy_f rfl) (fun hg => x_cmp (kd := .i64) (a := r19) (b := 0) (r := r19 != 0) (gd_of (c := !(r18 != 0)) hg (I r19)) rfl rfl) ?_
    refine s_val (x_por (b := r18 != 0) (r := r19 != 0) rfl rfl (fun hb => gd_of (c := !(r18 != 0)) (by first | exact hb | (rw [hb]; rfl) | simp_all) (B (r19 != 0)))) ?_
    refine s_val (x_mv (v := B ((r18 != 0) || (r19 != 0))) rfl) ?_
    refine g_val (!((r18 != 0) || (r19 != 0))) (gy_f rfl) (fun hg => x_fa (a := .pointer (some ⟨b_13, 0, none⟩)) (v := .pointer (some ⟨b_13, 0, none⟩)) rfl (fa_blk (o := 0) Fd35_0 Sz3)) ?_
    refine g_val (!((r18 != 0) || (r19 != 0))) (gy_f rfl) (fun hg => x_ld (p := .pointer (some ⟨b_13, 0, none⟩)) (v := I r005) (gd_of (c := !((r18 != 0) || (r19 != 0))) hg (.pointer (some ⟨b_13, 0, none⟩))) (ldb_sc Sc3 (H.blk (k := 1) rfl) rfl)) ?_
    refine g_val (!((r18 != 0) || (r19 != 0))) (gy_f rfl) (fun hg => x_mv (v := I (times : Int)) rfl) ?_
    refine g_val (!((r18 != 0) || (r19 != 0))) (gy_f rfl) (fun hg => x_cmp (kd := .i64) (a := r005) (b := (times : Int)) (r := decide (r005 < (times : Int))) (gd_of (c := !((r18 != 0) || (r19 != 0))) hg (I r005)) (gd_of (c := !((r18 != 0) || (r19 != 0))) hg (I (times : Int))) rfl) ?_
    refine s_val (x_por (b := ((r18 != 0) || (r19 != 0))) (r := decide (r005 < (times : Int))) rfl rfl (fun hb => gd_of (c := !((r18 != 0) || (r19 != 0))) (by first | exact hb | (rw [hb]; rfl) | simp_all) (B (decide (r005 < (times : Int)))))) ?_
    refine s_val (x_mv (v := B (((r18 != 0) || (r19 != 0)) || (decide (r005 < (times : Int))))) rfl) ?_
    refine g_val (!(((r18 != 0) || (r19 != 0)) || (decide (r005 < (times : Int))))) (gy_f rfl) (fun hg => x_fa (a := .pointer (some ⟨b_14, 0, none⟩)) (v := .pointer (some ⟨b_14, 1, none⟩)) rfl (fa_blk (o := 0) Fd35_1 Sz3)) ?_
    refine g_val (!(((r18 != 0) || (r19 != 0)) || (decide (r005 < (times : Int))))) (gy_f rfl) (fun hg => x_ld (p := .pointer (some ⟨b_14, 1, none⟩)) (v := I r016) (gd_of (c := !(((r18 != 0) || (r19 != 0)) || (decide (r005 < (times : Int))))) hg (.pointer (some ⟨b_14, 1, none⟩))) (ldb_sc Sc3 (H.blk (k := 0) rfl) rfl)) ?_
    refine g_val (!(((r18 != 0) || (r19 != 0)) || (decide (r005 < (times : Int))))) (gy_f rfl) (fun hg => x_mv (v := I (times : Int)) rfl) ?_
    refine g_val (!(((r18 != 0) || (r19 != 0)) || (decide (r005 < (times : Int))))) (gy_f rfl) (fun hg => x_cmp (kd := .i64) (a := r016) (b := (times : Int)) (r := decide (r016 < (times : Int))) (gd_of (c := !(((r18 != 0) || (r19 != 0)) || (decide (r005 < (times : Int))))) hg (I r016)) (gd_of (c := !(((r18 != 0) || (r19 != 0)) || (decide (r005 < (times : Int))))) hg (I (times : Int))) rfl) ?_
    refine s_val (x_por (b := (((r18 != 0) || (r19 != 0)) || (decide (r005 < (times : Int))))) (r := decide (r016 < (times : Int))) rfl rfl (fun hb => gd_of (c := !(((r18 != 0) || (r19 != 0)) || (decide (r005 < (times : Int))))) (by first | exact hb | (rw [hb]; rfl) | simp_all) (B (decide (r016 < (times : Int)))))) ?_
    refine s_nil ?_
    refine W.cond ((((r18 != 0) || (r19 != 0)) || (decide (r005 < (times : Int)))) || (decide (r016 < (times : Int)))) rfl (fun c147z => ?_) (fun c147z => ?_)
    ·replace hM := M.e_t hM c147z
     refine W.seq ?_
     refine W.region rfl ?_
     refine s_val (x_as (v := B false) rfl) ?_
     refine s_nil ?_
     refine W.ret ?_
     have hX148z := M.e_inr hM hN123z
     subst hX148z
     replace hM := hk116z
     try dsimp only at hM
     have hr_ := M.e_pure hM
     exact ⟨_, resE_tmp rfl, ⟨false, hr_, rfl, (H.pick [] (by decide) rfl)⟩⟩
    replace hM := M.e_f hM c147z
    refine W.skip ?_
    refine W.seq ?_
    refine W.region rfl ?_
    refine s_val (x_fa (a := .pointer (some ⟨b_12, 0, none⟩)) (v := .pointer (some ⟨b_12, 1, none⟩)) rfl (fa_blk (o := 0) Fd35_1 Sz3)) ?_
    refine s_val (x_ld (p := .pointer (some ⟨b_12, 1, none⟩)) (v := I r014) rfl (ldb_sc Sc3 (H.blk (k := 2) rfl) rfl)) ?_
    refine s_val (x_cmp (kd := .i64) (a := r014) (b := 2000) (r := decide (r014 < 2000)) rfl rfl rfl) ?_
    refine s_nil ?_
    refine W.cond (decide (r014 < 2000)) rfl (fun c149z => ?_) (fun c149z => ?_)
    ·replace hM := M.e_t hM c149z
     simp only [decide_eq_true_eq, decide_eq_false_iff_not, beq_iff_eq, bne_iff_ne, beq_eq_false_iff_ne, bne_eq_false_iff_eq, ne_eq, Decidable.not_not] at c149z
     refine W.seq ?_
     refine W.region rfl ?_
     refine s_val (x_ld (p := .pointer (some ⟨b_7, 0, none⟩)) (v := .agg #[u0_2, u1_3, I r02, I r03]) rfl (ldb_ag (ds := [u0_2, u1_3, I r02, I r03]) Ag26 Sz26 (H.blk (k := 6) rfl) rfl rfl)) ?_
     refine s_val (x_mv (v := I (r02 + r3)) rfl) ?_
     refine s_val (x_mv (v := I ((r02 + r3) + r4)) rfl) ?_
     refine s_val (x_fa (a := .pointer (some ⟨b_12, 0, none⟩)) (v := .pointer (some ⟨b_12, 1, none⟩)) rfl (fa_blk (o := 0) Fd35_1 Sz3)) ?_
     refine s_val (x_ld (p := .pointer (some ⟨b_12, 1, none⟩)) (v := I r014) rfl (ldb_sc Sc3 (H.blk (k := 2) rfl) rfl)) ?_
     obtain ⟨sd150z, hM⟩ := M.e_grd hM
     simp only [Bool.and_eq_true, decide_eq_true_eq] at sd150z
     refine s_val (x_ari (a := r014) (b := 1) (r := r014 + 1) rfl rfl rfl (by omega)) ?_
     obtain ⟨r152z, hx151z, hM⟩ := M.e_bind hM
     refine s_call cf15 [.agg #[u0_2, u1_3, I r02, I r03], I (r02 + r3), I ((r02 + r3) + r4), I (r014 + 1)] rfl (zad r00 r01 r02 r03 (r02 + r3) ((r02 + r3) + r4) (r014 + 1) (Reads.of (k := 7) rfl ownLe) (ownSl (H.get (k := 7) rfl)) (Reads.sup (Reads.of (k := 8) rfl ownLe) (Reads.of (k := 9) rfl roLe)) (rowSl rfl (H.get (k := 8) rfl) (roLe _ (H.get (k := 9) rfl)) hf9z) hx151z _ (St.give (T := [cBlk b_14 [I r006, I r016] 35, cBlk b_13 [I r005, I r015] 35, cBlk b_12 [I r004, I r014] 35, cBlk b_11 [I r003, I r013] 35, cOwn (α := Bool) 4 v39z ([false, true]), cBlk b_8 [I r002, I r012] 35, cBlk b_7 [u0_2, u1_3, I r02, I r03] 26, cOwn (α := Yr) 41 u0_2 r00, cOwn (α := Raw 3) 43 u1_3 rr2_4, cRo Bs3_5, cOwn (α := Int) 3 u4_6 r12, cBlk nb0_1 [v_numbers, I q1, I q2] 101]) H rfl)) ?_
     rintro vq w153z ⟨r007, r017, r110, hr154z, hvq, H2_⟩
     subst hr154z
     subst vq
     try dsimp only at hM
     replace H : St w w153z [cBlk b_14 [I r006, I r016] 35, cBlk b_13 [I r005, I r015] 35, cBlk b_12 [I r004, I r014] 35, cBlk b_11 [I r003, I r013] 35, cOwn (α := Bool) 4 v39z ([false, true]), cBlk b_8 [I r002, I r012] 35, cBlk b_7 [u0_2, u1_3, I r02, I r03] 26, cOwn (α := Yr) 41 u0_2 r00, cOwn (α := Raw 3) 43 u1_3 rr2_4, cRo Bs3_5, cOwn (α := Int) 3 u4_6 r12, cBlk nb0_1 [v_numbers, I q1, I q2] 101] R := H.back H2_ rfl
     clear H2_
     refine s_val (x_mv (v := .tuple #[.agg #[I r007, I r017], I r110]) rfl) ?_
     refine s_val (x_ext (vs := [.agg #[I r007, I r017], I r110]) (v := .agg #[I r007, I r017]) rfl rfl) ?_
     refine s_val (x_ext (vs := [.agg #[I r007, I r017], I r110]) (v := I r110) rfl rfl) ?_
     refine t_alloc (cs := [I 0, I 0]) H Al35 rfl ?_
     intro b_15 w155z H
     refine t_st (k := 0) (b := b_15) (off := 0) (cs := [I 0, I 0]) (vs := [I r007, I r017]) (cs' := [I r007, I r017]) (v := .agg #[I r007, I r017]) (L' := [cBlk b_15 [I r007, I r017] 35, cBlk b_14 [I r006, I r016] 35, cBlk b_13 [I r005, I r015] 35, cBlk b_12 [I r004, I r014] 35, cBlk b_11 [I r003, I r013] 35, cOwn (α := Bool) 4 v39z ([false, true]), cBlk b_8 [I r002, I r012] 35, cBlk b_7 [u0_2, u1_3, I r02, I r03] 26, cOwn (α := Yr) 41 u0_2 r00, cOwn (α := Raw 3) 43 u1_3 rr2_4, cRo Bs3_5, cOwn (α := Int) 3 u4_6 r12, cBlk nb0_1 [v_numbers, I q1, I q2] 101]) H rfl rfl rfl Sz35 rfl rfl rfl rfl rfl rfl ?_
     intro w156z H
     refine s_val (x_as (v := I r110) rfl) ?_
     refine s_nil ?_
     refine W.seq ?_
     refine W.region rfl ?_
     refine s_val (x_mv (v := I r110) rfl) ?_
     refine s_val (x_cmp (kd := .i64) (a := r110) (b := 0) (r := r110 != 0) rfl rfl rfl) ?_
     refine s_val (x_mv (v := B (r110 != 0)) rfl) ?_
     refine g_val (!(r110 != 0)) (gy_f rfl) (fun hg => x_fa (a := .pointer (some ⟨b_15, 0, none⟩)) (v := .pointer (some ⟨b_15, 1, none⟩)) rfl (fa_blk (o := 0) Fd35_1 Sz3)) ?_
     refine g_val (!(r110 != 0)) (gy_f rfl) (fun hg => x_ld (p := .pointer (some ⟨b_15, 1, none⟩)) (v := I r017) (gd_of (c := !(r110 != 0)) hg (.pointer (some ⟨b_15, 1, none⟩))) (ldb_sc Sc3 (H.blk (k := 0) rfl) rfl)) ?_
     refine g_val (!(r110 != 0)) (gy_f rfl) (fun hg => x_mv (v := I (times : Int)) rfl) ?_
     refine g_val (!(r110 != 0)) (gy_f rfl) (fun hg => x_cmp (kd := .i64) (a := r017) (b := (times : Int)) (r := decide ((times : Int) <= r017)) (gd_of (c := !(r110 != 0)) hg (I r017)) (gd_of (c := !(r110 != 0)) hg (I (times : Int))) rfl) ?_
     refine s_val (x_por (b := r110 != 0) (r := decide ((times : Int) <= r017)) rfl rfl (fun hb => gd_of (c := !(r110 != 0)) (by first | exact hb | (rw [hb]; rfl) | simp_all) (B (decide ((times : Int) <= r017))))) ?_
     refine s_nil ?_
     refine W.cond ((r110 != 0) || (decide ((times : Int) <= r017))) rfl (fun c157z => ?_) (fun c157z => ?_)
     ·replace hM := M.e_t hM c157z
      refine W.seq ?_
      refine W.region rfl ?_
      refine s_val (x_as (v := B false) rfl) ?_
      refine s_nil ?_
      refine W.ret ?_
      have hX158z := M.e_inr hM hN123z
      subst hX158z
      replace hM := hk116z
      try dsimp only at hM
      have hr_ := M.e_pure hM
      exact ⟨_, resE_tmp rfl, ⟨false, hr_, rfl, (H.pick [] (by decide) rfl)⟩⟩
     replace hM := M.e_f hM c157z
     refine W.skip ?_
     refine W.region rfl ?_
     refine s_val (x_mv (v := I (times : Int)) rfl) ?_
     obtain ⟨sd159z, hM⟩ := M.e_grd hM
     simp only [Bool.and_eq_true, decide_eq_true_eq] at sd159z
     refine s_val (x_ari (a := (times : Int)) (b := 1) (r := (times : Int) + 1) rfl rfl rfl (by omega)) ?_
     refine s_val (x_as (v := I ((times : Int) + 1)) rfl) ?_
     refine s_nil ?_
     exact ⟨m120z, lt121z, times + 1, _, upds_of _ _ ⟨rfl, rfl, rfl, rfl, trivial⟩, M.e_inl hM hN123z, (H.pick [4, 5, 6, 7, 8, 9, 10, 11, 12] (by decide) rfl)⟩
    replace hM := M.e_f hM c149z
    simp only [decide_eq_true_eq, decide_eq_false_iff_not, beq_iff_eq, bne_iff_ne, beq_eq_false_iff_ne, bne_eq_false_iff_eq, ne_eq, Decidable.not_not] at c149z
    refine W.skip ?_
    refine W.region rfl ?_
    refine s_val (x_mv (v := I (times : Int)) rfl) ?_
    obtain ⟨sd160z, hM⟩ := M.e_grd hM
    simp only [Bool.and_eq_true, decide_eq_true_eq] at sd160z
    refine s_val (x_ari (a := (times : Int)) (b := 1) (r := (times : Int) + 1) rfl rfl rfl (by omega)) ?_
    refine s_val (x_as (v := I ((times : Int) + 1)) rfl) ?_
    refine s_nil ?_
    exact ⟨m120z, lt121z, times + 1, _, upds_of _ _ ⟨rfl, rfl, rfl, rfl, trivial⟩, M.e_inl hM hN123z, (H.pick [3, 4, 5, 6, 7, 8, 9, 10, 11] (by decide) rfl)⟩
   replace hM := M.e_f hM c126z
   simp only [decide_eq_true_eq, decide_eq_false_iff_not, beq_iff_eq, bne_iff_ne, beq_eq_false_iff_ne, bne_eq_false_iff_eq, ne_eq, Decidable.not_not] at c126z
   refine W.exit ?_
   have hX161z := M.e_inr hM hN123z
   subst hX161z
   replace hM := hk116z
   try dsimp only at hM
   refine W.seq ?_
   refine W.region rfl ?_
   obtain ⟨r163z, hx162z, hM⟩ := M.e_bind hM
   refine s_call cf18 [] rfl (zbO hx162z _ (St.give (T := [cBlk b_11 [I r003, I r013] 35, cOwn (α := Bool) 4 v39z ([false, true]), cBlk b_8 [I r002, I r012] 35, cBlk b_7 [u0_2, u1_3, I r02, I r03] 26, cOwn (α := Yr) 41 u0_2 r00, cOwn (α := Raw 3) 43 u1_3 rr2_4, cRo Bs3_5, cOwn (α := Int) 3 u4_6 r12, cBlk nb0_1 [v_numbers, I q1, I q2] 101]) H rfl)) ?_
   rintro vq w164z ⟨r8, hr165z, hvq, H2_⟩
   subst hr165z
   subst vq
   try dsimp only at hM
   replace H : St w w164z [cBlk b_11 [I r003, I r013] 35, cOwn (α := Bool) 4 v39z ([false, true]), cBlk b_8 [I r002, I r012] 35, cBlk b_7 [u0_2, u1_3, I r02, I r03] 26, cOwn (α := Yr) 41 u0_2 r00, cOwn (α := Raw 3) 43 u1_3 rr2_4, cRo Bs3_5, cOwn (α := Int) 3 u4_6 r12, cBlk nb0_1 [v_numbers, I q1, I q2] 101] R := H.back H2_ rfl
   clear H2_
   refine s_val (x_as (v := B r8) rfl) ?_
   refine s_nil ?_
   refine W.ret ?_
   have hr_ := M.e_pure hM
   exact ⟨_, resE_tmp rfl, ⟨r8, hr_, rfl, (H.pick [] (by decide) rfl)⟩⟩
  skip
  refine t_alloc (cs := [I 0, I 0]) H Al35 rfl ?_
  intro b_11 w166z H
  refine s_nil ⟨(H.pick [1, 2, 3, 4, 5, 6, 7, 8] (by decide) rfl), ?_⟩
  refine t_l rfl ?_
  obtain ⟨r168z, hx167z, hM⟩ := M.e_bind hM
  refine s_call cf15 [.agg #[u0_2, u1_3, I r02, I r03], I (r02 + r3), I ((r02 + r3) + r4), I (min 2000 (r5 + r7))] rfl (zad r00 r01 r02 r03 (r02 + r3) ((r02 + r3) + r4) (min 2000 (r5 + r7)) (Reads.of (k := 4) rfl ownLe) (ownSl (H.get (k := 4) rfl)) (Reads.sup (Reads.of (k := 5) rfl ownLe) (Reads.of (k := 6) rfl roLe)) (rowSl rfl (H.get (k := 5) rfl) (roLe _ (H.get (k := 6) rfl)) hf9z) hx167z _ (St.give (T := [cBlk b_11 [I 0, I 0] 35, cOwn (α := Bool) 4 v39z ([false, true]), cBlk b_8 [I r002, I r012] 35, cBlk b_7 [u0_2, u1_3, I r02, I r03] 26, cOwn (α := Yr) 41 u0_2 r00, cOwn (α := Raw 3) 43 u1_3 rr2_4, cRo Bs3_5, cOwn (α := Int) 3 u4_6 r12, cBlk nb0_1 [v_numbers, I q1, I q2] 101]) H rfl)) ?_
  rintro vq w169z ⟨r003, r013, r16, hr170z, hvq, H2_⟩
  subst hr170z
  subst vq
  try dsimp only at hM
  replace H : St w w169z [cBlk b_11 [I 0, I 0] 35, cOwn (α := Bool) 4 v39z ([false, true]), cBlk b_8 [I r002, I r012] 35, cBlk b_7 [u0_2, u1_3, I r02, I r03] 26, cOwn (α := Yr) 41 u0_2 r00, cOwn (α := Raw 3) 43 u1_3 rr2_4, cRo Bs3_5, cOwn (α := Int) 3 u4_6 r12, cBlk nb0_1 [v_numbers, I q1, I q2] 101] R := H.back H2_ rfl
  clear H2_
  refine s_nil ⟨(H.pick [1, 2, 3, 4, 5, 6, 7, 8] (by decide) rfl), ?_⟩
  refine t_q rfl (fun w' H => x_mv (v := .tuple #[.agg #[I r003, I r013], I r16]) rfl) ?_
  refine t_q rfl (fun w' H => x_ext (vs := [.agg #[I r003, I r013], I r16]) (v := .agg #[I r003, I r013]) rfl rfl) ?_
  refine t_q rfl (fun w' H => x_ext (vs := [.agg #[I r003, I r013], I r16]) (v := I r16) rfl rfl) ?_
  refine t_l rfl ?_
  refine t_st (k := 0) (b := b_11) (off := 0) (cs := [I 0, I 0]) (vs := [I r003, I r013]) (cs' := [I r003, I r013]) (v := .agg #[I r003, I r013]) (L' := [cBlk b_11 [I r003, I r013] 35, cOwn (α := Bool) 4 v39z ([false, true]), cBlk b_8 [I r002, I r012] 35, cBlk b_7 [u0_2, u1_3, I r02, I r03] 26, cOwn (α := Yr) 41 u0_2 r00, cOwn (α := Raw 3) 43 u1_3 rr2_4, cRo Bs3_5, cOwn (α := Int) 3 u4_6 r12, cBlk nb0_1 [v_numbers, I q1, I q2] 101]) H rfl rfl rfl Sz35 rfl rfl rfl rfl rfl rfl ?_
  intro w171z H
  refine s_nil ⟨(H.pick [1, 2, 3, 4, 5, 6, 7, 8] (by decide) rfl), ?_⟩
  refine t_q rfl (fun w' H => x_as (v := I r16) rfl) ?_
  refine t_nil ?_
  refine W.seq ?_
  refine W.seq ?_
  refine W.region rfl ?_
  refine s_val (x_mv (v := I r16) rfl) ?_
  refine s_val (x_cmp (kd := .i64) (a := r16) (b := 0) (r := r16 != 0) rfl rfl rfl) ?_
  refine s_val (x_mv (v := B (r16 != 0)) rfl) ?_
  refine g_val (!(r16 != 0)) (gy_f rfl) (fun hg => x_fa (a := .pointer (some ⟨b_11, 0, none⟩)) (v := .pointer (some ⟨b_11, 0, none⟩)) rfl (fa_blk (o := 0) Fd35_0 Sz3)) ?_
  refine g_val (!(r16 != 0)) (gy_f rfl) (fun hg => x_ld (p := .pointer (some ⟨b_11, 0, none⟩)) (v := I r003) (gd_of (c := !(r16 != 0)) hg (.pointer (some ⟨b_11, 0, none⟩))) (ldb_sc Sc3 (H.blk (k := 0) rfl) rfl)) ?_
  refine g_val (!(r16 != 0)) (gy_f rfl) (fun hg => x_fa (a := .pointer (some ⟨b_8, 0, none⟩)) (v := .pointer (some ⟨b_8, 0, none⟩)) rfl (fa_blk (o := 0) Fd35_0 Sz3)) ?_
  refine g_val (!(r16 != 0)) (gy_f rfl) (fun hg => x_ld (p := .pointer (some ⟨b_8, 0, none⟩)) (v := I r002) (gd_of (c := !(r16 != 0)) hg (.pointer (some ⟨b_8, 0, none⟩))) (ldb_sc Sc3 (H.blk (k := 2) rfl) rfl)) ?_
  refine g_val (!(r16 != 0)) (gy_f rfl) (fun hg => x_cmp (kd := .i64) (a := r003) (b := r002) (r := decide (r002 < r003)) (gd_of (c := !(r16 != 0)) hg (I r003)) (gd_of (c := !(r16 != 0)) hg (I r002)) rfl) ?_
  refine s_val (x_por (b := r16 != 0) (r := decide (r002 < r003)) rfl rfl (fun hb => gd_of (c := !(r16 != 0)) (by first | exact hb | (rw [hb]; rfl) | simp_all) (B (decide (r002 < r003))))) ?_
  refine s_val (x_mv (v := B ((r16 != 0) || (decide (r002 < r003)))) rfl) ?_
  refine g_val (!((r16 != 0) || (decide (r002 < r003)))) (gy_f rfl) (fun hg => x_fa (a := .pointer (some ⟨b_11, 0, none⟩)) (v := .pointer (some ⟨b_11, 1, none⟩)) rfl (fa_blk (o := 0) Fd35_1 Sz3)) ?_
  refine g_val (!((r16 != 0) || (decide (r002 < r003)))) (gy_f rfl) (fun hg => x_ld (p := .pointer (some ⟨b_11, 1, none⟩)) (v := I r013) (gd_of (c := !((r16 != 0) || (decide (r002 < r003)))) hg (.pointer (some ⟨b_11, 1, none⟩))) (ldb_sc Sc3 (H.blk (k := 0) rfl) rfl)) ?_
  refine g_val (!((r16 != 0) || (decide (r002 < r003)))) (gy_f rfl) (fun hg => x_fa (a := .pointer (some ⟨b_8, 0, none⟩)) (v := .pointer (some ⟨b_8, 1, none⟩)) rfl (fa_blk (o := 0) Fd35_1 Sz3)) ?_
  refine g_val (!((r16 != 0) || (decide (r002 < r003)))) (gy_f rfl) (fun hg => x_ld (p := .pointer (some ⟨b_8, 1, none⟩)) (v := I r012) (gd_of (c := !((r16 != 0) || (decide (r002 < r003)))) hg (.pointer (some ⟨b_8, 1, none⟩))) (ldb_sc Sc3 (H.blk (k := 2) rfl) rfl)) ?_
  refine g_val (!((r16 != 0) || (decide (r002 < r003)))) (gy_f rfl) (fun hg => x_cmp (kd := .i64) (a := r013) (b := r012) (r := decide (r012 < r013)) (gd_of (c := !((r16 != 0) || (decide (r002 < r003)))) hg (I r013)) (gd_of (c := !((r16 != 0) || (decide (r002 < r003)))) hg (I r012)) rfl) ?_
  refine s_val (x_por (b := ((r16 != 0) || (decide (r002 < r003)))) (r := decide (r012 < r013)) rfl rfl (fun hb => gd_of (c := !((r16 != 0) || (decide (r002 < r003)))) (by first | exact hb | (rw [hb]; rfl) | simp_all) (B (decide (r012 < r013))))) ?_
  refine s_nil ?_
  refine W.cond (((r16 != 0) || (decide (r002 < r003))) || (decide (r012 < r013))) rfl (fun c172z => ?_) (fun c172z => ?_)
  ·replace hM := M.e_t hM c172z
   refine W.seq ?_
   refine W.region rfl ?_
   refine s_val (x_as (v := B false) rfl) ?_
   refine s_nil ?_
   refine W.ret ?_
   have hr_ := M.e_pure hM
   exact ⟨_, resE_tmp rfl, ⟨false, hr_, rfl, (H.pick [] (by decide) rfl)⟩⟩
  replace hM := M.e_f hM c172z
  refine W.skip ?_
  refine W.seq ?_
  refine W.seq ?_
  refine W.region rfl ?_
  refine s_val (x_as (v := I 1) rfl) ?_
  refine s_nil ?_
  refine W.block ?_
  obtain ⟨ex173z, hi174z, hk175z⟩ := M.e_bind hM
  obtain ⟨m0_, hi174z⟩ := M.e_iter hi174z
  refine W.loop (fun m σ W => ∃ (times : Nat) (ρ : Env), σ = upds ρ [(11, .pointer (some ⟨b_7, 0, none⟩)), (13, I (r02 + r3)), (14, I ((r02 + r3) + r4)), (25, I (times : Int))] /\ M.iterN (zai r00 r01 r02 r03 r3 r4) m times = some ex173z /\ St w W [cBlk b_11 [I r003, I r013] 35, cOwn (α := Bool) 4 v39z ([false, true]), cBlk b_8 [I r002, I r012] 35, cBlk b_7 [u0_2, u1_3, I r02, I r03] 26, cOwn (α := Yr) 41 u0_2 r00, cOwn (α := Raw 3) 43 u1_3 rr2_4, cRo Bs3_5, cOwn (α := Int) 3 u4_6 r12, cBlk nb0_1 [v_numbers, I q1, I q2] 101] R) ?_ ?_
  ·exact ⟨_, 1, _, upds_of _ _ ⟨rfl, rfl, rfl, rfl, trivial⟩, hi174z, H⟩
  rintro m178z σ w176z ⟨times, ρ, rfl, hI177z, H⟩
  obtain ⟨m179z, lt180z, x181z, hM, hN182z⟩ := M.e_iterN hI177z
  simp only [zai] at hM
  clear hI177z
  refine W.seq ?_
  refine W.seq ?_
  refine W.region rfl ?_
  refine s_val (x_mv (v := I (times : Int)) rfl) ?_
  refine s_val (x_mv (v := I ((r02 + r3) + r4)) rfl) ?_
  refine s_val (x_mv (v := I (r02 + r3)) rfl) ?_
  obtain ⟨sd183z, hM⟩ := M.e_grd hM
  simp only [Bool.and_eq_true, decide_eq_true_eq] at sd183z
  refine s_val (x_ari (a := (r02 + r3) + r4) (b := r02 + r3) (r := ((r02 + r3) + r4) - (r02 + r3)) rfl rfl rfl (by omega)) ?_
  obtain ⟨sd184z, hM⟩ := M.e_grd hM
  simp only [Bool.and_eq_true, decide_eq_true_eq] at sd184z
  refine s_val (x_ari (a := ((r02 + r3) + r4) - (r02 + r3)) (b := 1) (r := (((r02 + r3) + r4) - (r02 + r3)) + 1) rfl rfl rfl (by omega)) ?_
  refine s_val (x_cmp (kd := .i64) (a := (times : Int)) (b := (((r02 + r3) + r4) - (r02 + r3)) + 1) (r := decide ((times : Int) <= ((((r02 + r3) + r4) - (r02 + r3)) + 1))) rfl rfl rfl) ?_
  refine s_nil ?_
  refine W.cond (decide ((times : Int) <= ((((r02 + r3) + r4) - (r02 + r3)) + 1))) rfl (fun c185z => ?_) (fun c185z => ?_)
  ·replace hM := M.e_t hM c185z
   simp only [decide_eq_true_eq, decide_eq_false_iff_not, beq_iff_eq, bne_iff_ne, beq_eq_false_iff_ne, bne_eq_false_iff_eq, ne_eq, Decidable.not_not] at c185z
   refine W.skip ?_
   refine W.seq ?_
   refine W.block ?_
   refine W.seq ?_
   refine W.region rfl ?_
   refine s_val (x_ld (p := .pointer (some ⟨b_7, 0, none⟩)) (v := .agg #[u0_2, u1_3, I r02, I r03]) rfl (ldb_ag (ds := [u0_2, u1_3, I r02, I r03]) Ag26 Sz26 (H.blk (k := 3) rfl) rfl rfl)) ?_
   refine s_val (x_mv (v := I (r02 + r3)) rfl) ?_
   refine s_val (x_mv (v := I ((r02 + r3) + r4)) rfl) ?_
   refine s_val (x_mv (v := I (times : Int)) rfl) ?_
   obtain ⟨r187z, hx186z, hM⟩ := M.e_bind hM
   refine s_call cf17 [.agg #[u0_2, u1_3, I r02, I r03], I (r02 + r3), I ((r02 + r3) + r4), I (times : Int)] rfl (zbg r00 r01 r02 r03 (r02 + r3) ((r02 + r3) + r4) (times : Int) (Reads.of (k := 4) rfl ownLe) (ownSl (H.get (k := 4) rfl)) (Reads.sup (Reads.of (k := 5) rfl ownLe) (Reads.of (k := 6) rfl roLe)) (rowSl rfl (H.get (k := 5) rfl) (roLe _ (H.get (k := 6) rfl)) hf9z) hx186z _ (St.give (T := [cBlk b_11 [I r003, I r013] 35, cOwn (α := Bool) 4 v39z ([false, true]), cBlk b_8 [I r002, I r012] 35, cBlk b_7 [u0_2, u1_3, I r02, I r03] 26, cOwn (α := Yr) 41 u0_2 r00, cOwn (α := Raw 3) 43 u1_3 rr2_4, cRo Bs3_5, cOwn (α := Int) 3 u4_6 r12, cBlk nb0_1 [v_numbers, I q1, I q2] 101]) H rfl)) ?_
   rintro vq w188z ⟨r004, r014, r17, hr189z, hvq, H2_⟩
   subst hr189z
   subst vq
   try dsimp only at hM
   replace H : St w w188z [cBlk b_11 [I r003, I r013] 35, cOwn (α := Bool) 4 v39z ([false, true]), cBlk b_8 [I r002, I r012] 35, cBlk b_7 [u0_2, u1_3, I r02, I r03] 26, cOwn (α := Yr) 41 u0_2 r00, cOwn (α := Raw 3) 43 u1_3 rr2_4, cRo Bs3_5, cOwn (α := Int) 3 u4_6 r12, cBlk nb0_1 [v_numbers, I q1, I q2] 101] R := H.back H2_ rfl
   clear H2_
   refine s_val (x_mv (v := .tuple #[.agg #[I r004, I r014], I r17]) rfl) ?_
   refine s_val (x_ext (vs := [.agg #[I r004, I r014], I r17]) (v := .agg #[I r004, I r014]) rfl rfl) ?_
   refine s_val (x_ext (vs := [.agg #[I r004, I r014], I r17]) (v := I r17) rfl rfl) ?_
   refine t_alloc (cs := [I 0, I 0]) H Al35 rfl ?_
   intro b_12 w190z H
   refine t_st (k := 0) (b := b_12) (off := 0) (cs := [I 0, I 0]) (vs := [I r004, I r014]) (cs' := [I r004, I r014]) (v := .agg #[I r004, I r014]) (L' := [cBlk b_12 [I r004, I r014] 35, cBlk b_11 [I r003, I r013] 35, cOwn (α := Bool) 4 v39z ([false, true]), cBlk b_8 [I r002, I r012] 35, cBlk b_7 [u0_2, u1_3, I r02, I r03] 26, cOwn (α := Yr) 41 u0_2 r00, cOwn (α := Raw 3) 43 u1_3 rr2_4, cRo Bs3_5, cOwn (α := Int) 3 u4_6 r12, cBlk nb0_1 [v_numbers, I q1, I q2] 101]) H rfl rfl rfl Sz35 rfl rfl rfl rfl rfl rfl ?_
   intro w191z H
   refine s_val (x_as (v := I r17) rfl) ?_
   refine s_nil ?_
   refine W.seq ?_
   refine W.seq ?_
   refine W.region rfl ?_
   refine s_val (x_mv (v := I r17) rfl) ?_
   refine s_val (x_cmp (kd := .i64) (a := r17) (b := 0) (r := r17 != 0) rfl rfl rfl) ?_
   refine s_val (x_mv (v := B (r17 != 0)) rfl) ?_
   refine g_val (!(r17 != 0)) (gy_f rfl) (fun hg => x_fa (a := .pointer (some ⟨b_12, 0, none⟩)) (v := .pointer (some ⟨b_12, 0, none⟩)) rfl (fa_blk (o := 0) Fd35_0 Sz3)) ?_
   refine g_val (!(r17 != 0)) (gy_f rfl) (fun hg => x_ld (p := .pointer (some ⟨b_12, 0, none⟩)) (v := I r004) (gd_of (c := !(r17 != 0)) hg (.pointer (some ⟨b_12, 0, none⟩))) (ldb_sc Sc3 (H.blk (k := 0) rfl) rfl)) ?_
   refine g_val (!(r17 != 0)) (gy_f rfl) (fun hg => x_fa (a := .pointer (some ⟨b_12, 0, none⟩)) (v := .pointer (some ⟨b_12, 1, none⟩)) rfl (fa_blk (o := 0) Fd35_1 Sz3)) ?_
   refine g_val (!(r17 != 0)) (gy_f rfl) (fun hg => x_ld (p := .pointer (some ⟨b_12, 1, none⟩)) (v := I r014) (gd_of (c := !(r17 != 0)) hg (.pointer (some ⟨b_12, 1, none⟩))) (ldb_sc Sc3 (H.blk (k := 0) rfl) rfl)) ?_
   refine g_val (!(r17 != 0)) (gy_f rfl) (fun hg => x_cmp (kd := .i64) (a := r004) (b := r014) (r := decide (r014 < r004)) (gd_of (c := !(r17 != 0)) hg (I r004)) (gd_of (c := !(r17 != 0)) hg (I r014)) rfl) ?_
   refine s_val (x_por (b := r17 != 0) (r := decide (r014 < r004)) rfl rfl (fun hb => gd_of (c := !(r17 != 0)) (by first | exact hb | (rw [hb]; rfl) | simp_all) (B (decide (r014 < r004))))) ?_
   refine s_nil ?_
   refine W.cond ((r17 != 0) || (decide (r014 < r004))) rfl (fun c192z => ?_) (fun c192z => ?_)
   ·replace hM := M.e_t hM c192z
    refine W.seq ?_
    refine W.region rfl ?_
    refine s_val (x_as (v := B false) rfl) ?_
    refine s_nil ?_
    refine W.ret ?_
    have hX193z := M.e_inr hM hN182z
    subst hX193z
    replace hM := hk175z
    try dsimp only at hM
    have hr_ := M.e_pure hM
    exact ⟨_, resE_tmp rfl, ⟨false, hr_, rfl, (H.pick [] (by decide) rfl)⟩⟩
   replace hM := M.e_f hM c192z
   refine W.skip ?_
   refine W.seq ?_
   refine W.region rfl ?_
   refine s_val (x_ld (p := .pointer (some ⟨b_7, 0, none⟩)) (v := .agg #[u0_2, u1_3, I r02, I r03]) rfl (ldb_ag (ds := [u0_2, u1_3, I r02, I r03]) Ag26 Sz26 (H.blk (k := 4) rfl) rfl rfl)) ?_
   refine s_val (x_mv (v := I (r02 + r3)) rfl) ?_
   refine s_val (x_mv (v := I ((r02 + r3) + r4)) rfl) ?_
   refine s_val (x_fa (a := .pointer (some ⟨b_12, 0, none⟩)) (v := .pointer (some ⟨b_12, 0, none⟩)) rfl (fa_blk (o := 0) Fd35_0 Sz3)) ?_
   refine s_val (x_ld (p := .pointer (some ⟨b_12, 0, none⟩)) (v := I r004) rfl (ldb_sc Sc3 (H.blk (k := 0) rfl) rfl)) ?_
   obtain ⟨r195z, hx194z, hM⟩ := M.e_bind hM
   refine s_call cf15 [.agg #[u0_2, u1_3, I r02, I r03], I (r02 + r3), I ((r02 + r3) + r4), I r004] rfl (zad r00 r01 r02 r03 (r02 + r3) ((r02 + r3) + r4) r004 (Reads.of (k := 5) rfl ownLe) (ownSl (H.get (k := 5) rfl)) (Reads.sup (Reads.of (k := 6) rfl ownLe) (Reads.of (k := 7) rfl roLe)) (rowSl rfl (H.get (k := 6) rfl) (roLe _ (H.get (k := 7) rfl)) hf9z) hx194z _ (St.give (T := [cBlk b_12 [I r004, I r014] 35, cBlk b_11 [I r003, I r013] 35, cOwn (α := Bool) 4 v39z ([false, true]), cBlk b_8 [I r002, I r012] 35, cBlk b_7 [u0_2, u1_3, I r02, I r03] 26, cOwn (α := Yr) 41 u0_2 r00, cOwn (α := Raw 3) 43 u1_3 rr2_4, cRo Bs3_5, cOwn (α := Int) 3 u4_6 r12, cBlk nb0_1 [v_numbers, I q1, I q2] 101]) H rfl)) ?_
   rintro vq w196z ⟨r005, r015, r18, hr197z, hvq, H2_⟩
   subst hr197z
   subst vq
   try dsimp only at hM
   replace H : St w w196z [cBlk b_12 [I r004, I r014] 35, cBlk b_11 [I r003, I r013] 35, cOwn (α := Bool) 4 v39z ([false, true]), cBlk b_8 [I r002, I r012] 35, cBlk b_7 [u0_2, u1_3, I r02, I r03] 26, cOwn (α := Yr) 41 u0_2 r00, cOwn (α := Raw 3) 43 u1_3 rr2_4, cRo Bs3_5, cOwn (α := Int) 3 u4_6 r12, cBlk nb0_1 [v_numbers, I q1, I q2] 101] R := H.back H2_ rfl
   clear H2_
   refine s_val (x_mv (v := .tuple #[.agg #[I r005, I r015], I r18]) rfl) ?_
   refine s_val (x_ext (vs := [.agg #[I r005, I r015], I r18]) (v := .agg #[I r005, I r015]) rfl rfl) ?_
   refine s_val (x_ext (vs := [.agg #[I r005, I r015], I r18]) (v := I r18) rfl rfl) ?_
   refine t_alloc (cs := [I 0, I 0]) H Al35 rfl ?_
   intro b_13 w198z H
   refine t_st (k := 0) (b := b_13) (off := 0) (cs := [I 0, I 0]) (vs := [I r005, I r015]) (cs' := [I r005, I r015]) (v := .agg #[I r005, I r015]) (L' := [cBlk b_13 [I r005, I r015] 35, cBlk b_12 [I r004, I r014] 35, cBlk b_11 [I r003, I r013] 35, cOwn (α := Bool) 4 v39z ([false, true]), cBlk b_8 [I r002, I r012] 35, cBlk b_7 [u0_2, u1_3, I r02, I r03] 26, cOwn (α := Yr) 41 u0_2 r00, cOwn (α := Raw 3) 43 u1_3 rr2_4, cRo Bs3_5, cOwn (α := Int) 3 u4_6 r12, cBlk nb0_1 [v_numbers, I q1, I q2] 101]) H rfl rfl rfl Sz35 rfl rfl rfl rfl rfl rfl ?_
   intro w199z H
   refine s_val (x_as (v := I r18) rfl) ?_
   refine s_nil ?_
   refine W.seq ?_
   refine W.region rfl ?_
   refine s_val (x_ld (p := .pointer (some ⟨b_7, 0, none⟩)) (v := .agg #[u0_2, u1_3, I r02, I r03]) rfl (ldb_ag (ds := [u0_2, u1_3, I r02, I r03]) Ag26 Sz26 (H.blk (k := 5) rfl) rfl rfl)) ?_
   refine s_val (x_mv (v := I (r02 + r3)) rfl) ?_
   refine s_val (x_mv (v := I ((r02 + r3) + r4)) rfl) ?_
   refine s_val (x_fa (a := .pointer (some ⟨b_12, 0, none⟩)) (v := .pointer (some ⟨b_12, 1, none⟩)) rfl (fa_blk (o := 0) Fd35_1 Sz3)) ?_
   refine s_val (x_ld (p := .pointer (some ⟨b_12, 1, none⟩)) (v := I r014) rfl (ldb_sc Sc3 (H.blk (k := 1) rfl) rfl)) ?_
   obtain ⟨r201z, hx200z, hM⟩ := M.e_bind hM
   refine s_call cf15 [.agg #[u0_2, u1_3, I r02, I r03], I (r02 + r3), I ((r02 + r3) + r4), I r014] rfl (zad r00 r01 r02 r03 (r02 + r3) ((r02 + r3) + r4) r014 (Reads.of (k := 6) rfl ownLe) (ownSl (H.get (k := 6) rfl)) (Reads.sup (Reads.of (k := 7) rfl ownLe) (Reads.of (k := 8) rfl roLe)) (rowSl rfl (H.get (k := 7) rfl) (roLe _ (H.get (k := 8) rfl)) hf9z) hx200z _ (St.give (T := [cBlk b_13 [I r005, I r015] 35, cBlk b_12 [I r004, I r014] 35, cBlk b_11 [I r003, I r013] 35, cOwn (α := Bool) 4 v39z ([false, true]), cBlk b_8 [I r002, I r012] 35, cBlk b_7 [u0_2, u1_3, I r02, I r03] 26, cOwn (α := Yr) 41 u0_2 r00, cOwn (α := Raw 3) 43 u1_3 rr2_4, cRo Bs3_5, cOwn (α := Int) 3 u4_6 r12, cBlk nb0_1 [v_numbers, I q1, I q2] 101]) H rfl)) ?_
   rintro vq w202z ⟨r006, r016, r19, hr203z, hvq, H2_⟩
   subst hr203z
   subst vq
   try dsimp only at hM
   replace H : St w w202z [cBlk b_13 [I r005, I r015] 35, cBlk b_12 [I r004, I r014] 35, cBlk b_11 [I r003, I r013] 35, cOwn (α := Bool) 4 v39z ([false, true]), cBlk b_8 [I r002, I r012] 35, cBlk b_7 [u0_2, u1_3, I r02, I r03] 26, cOwn (α := Yr) 41 u0_2 r00, cOwn (α := Raw 3) 43 u1_3 rr2_4, cRo Bs3_5, cOwn (α := Int) 3 u4_6 r12, cBlk nb0_1 [v_numbers, I q1, I q2] 101] R := H.back H2_ rfl
   clear H2_
   refine s_val (x_mv (v := .tuple #[.agg #[I r006, I r016], I r19]) rfl) ?_
   refine s_val (x_ext (vs := [.agg #[I r006, I r016], I r19]) (v := .agg #[I r006, I r016]) rfl rfl) ?_
   refine s_val (x_ext (vs := [.agg #[I r006, I r016], I r19]) (v := I r19) rfl rfl) ?_
   refine t_alloc (cs := [I 0, I 0]) H Al35 rfl ?_
   intro b_14 w204z H
   refine t_st (k := 0) (b := b_14) (off := 0) (cs := [I 0, I 0]) (vs := [I r006, I r016]) (cs' := [I r006, I r016]) (v := .agg #[I r006, I r016]) (L' := [cBlk b_14 [I r006, I r016] 35, cBlk b_13 [I r005, I r015] 35, cBlk b_12 [I r004, I r014] 35, cBlk b_11 [I r003, I r013] 35, cOwn (α := Bool) 4 v39z ([false, true]), cBlk b_8 [I r002, I r012] 35, cBlk b_7 [u0_2, u1_3, I r02, I r03] 26, cOwn (α := Yr) 41 u0_2 r00, cOwn (α := Raw 3) 43 u1_3 rr2_4, cRo Bs3_5, cOwn (α := Int) 3 u4_6 r12, cBlk nb0_1 [v_numbers, I q1, I q2] 101]) H rfl rfl rfl Sz35 rfl rfl rfl rfl rfl rfl ?_
   intro w205z H
   refine s_val (x_as (v := I r19) rfl) ?_
   refine s_nil ?_
   refine W.seq ?_
   refine W.seq ?_
   refine W.region rfl ?_
   refine s_val (x_mv (v := I r18) rfl) ?_
   refine s_val (x_cmp (kd := .i64) (a := r18) (b := 0) (r := r18 != 0) rfl rfl rfl) ?_
   refine s_val (x_mv (v := B (r18 != 0)) rfl) ?_
   refine g_val (!(r18 != 0)) (gy_f rfl) (fun hg => x_mv (v := I r19) rfl) ?_
   refine g_val (!(r18 != 0)) (gy_f rfl) (fun hg => x_cmp (kd := .i64) (a := r19) (b := 0) (r := r19 != 0) (gd_of (c := !(r18 != 0)) hg (I r19)) rfl rfl) ?_
   refine s_val (x_por (b := r18 != 0) (r := r19 != 0) rfl rfl (fun hb => gd_of (c := !(r18 != 0)) (by first | exact hb | (rw [hb]; rfl) | simp_all) (B (r19 != 0)))) ?_
   refine s_val (x_mv (v := B ((r18 != 0) || (r19 != 0))) rfl) ?_
   refine g_val (!((r18 != 0) || (r19 != 0))) (gy_f rfl) (fun hg => x_fa (a := .pointer (some ⟨b_13, 0, none⟩)) (v := .pointer (some ⟨b_13, 0, none⟩)) rfl (fa_blk (o := 0) Fd35_0 Sz3)) ?_
   refine g_val (!((r18 != 0) || (r19 != 0))) (gy_f rfl) (fun hg => x_ld (p := .pointer (some ⟨b_13, 0, none⟩)) (v := I r005) (gd_of (c := !((r18 != 0) || (r19 != 0))) hg (.pointer (some ⟨b_13, 0, none⟩))) (ldb_sc Sc3 (H.blk (k := 1) rfl) rfl)) ?_
   refine g_val (!((r18 != 0) || (r19 != 0))) (gy_f rfl) (fun hg => x_mv (v := I (times : Int)) rfl) ?_
   refine g_val (!((r18 != 0) || (r19 != 0))) (gy_f rfl) (fun hg => x_cmp (kd := .i64) (a := r005) (b := (times : Int)) (r := decide (r005 < (times : Int))) (gd_of (c := !((r18 != 0) || (r19 != 0))) hg (I r005)) (gd_of (c := !((r18 != 0) || (r19 != 0))) hg (I (times : Int))) rfl) ?_
   refine s_val (x_por (b := ((r18 != 0) || (r19 != 0))) (r := decide (r005 < (times : Int))) rfl rfl (fun hb => gd_of (c := !((r18 != 0) || (r19 != 0))) (by first | exact hb | (rw [hb]; rfl) | simp_all) (B (decide (r005 < (times : Int)))))) ?_
   refine s_val (x_mv (v := B (((r18 != 0) || (r19 != 0)) || (decide (r005 < (times : Int))))) rfl) ?_
   refine g_val (!(((r18 != 0) || (r19 != 0)) || (decide (r005 < (times : Int))))) (gy_f rfl) (fun hg => x_fa (a := .pointer (some ⟨b_14, 0, none⟩)) (v := .pointer (some ⟨b_14, 1, none⟩)) rfl (fa_blk (o := 0) Fd35_1 Sz3)) ?_
   refine g_val (!(((r18 != 0) || (r19 != 0)) || (decide (r005 < (times : Int))))) (gy_f rfl) (fun hg => x_ld (p := .pointer (some ⟨b_14, 1, none⟩)) (v := I r016) (gd_of (c := !(((r18 != 0) || (r19 != 0)) || (decide (r005 < (times : Int))))) hg (.pointer (some ⟨b_14, 1, none⟩))) (ldb_sc Sc3 (H.blk (k := 0) rfl) rfl)) ?_
   refine g_val (!(((r18 != 0) || (r19 != 0)) || (decide (r005 < (times : Int))))) (gy_f rfl) (fun hg => x_mv (v := I (times : Int)) rfl) ?_
   refine g_val (!(((r18 != 0) || (r19 != 0)) || (decide (r005 < (times : Int))))) (gy_f rfl) (fun hg => x_cmp (kd := .i64) (a := r016) (b := (times : Int)) (r := decide (r016 < (times : Int))) (gd_of (c := !(((r18 != 0) || (r19 != 0)) || (decide (r005 < (times : Int))))) hg (I r016)) (gd_of (c := !(((r18 != 0) || (r19 != 0)) || (decide (r005 < (times : Int))))) hg (I (times : Int))) rfl) ?_
   refine s_val (x_por (b := (((r18 != 0) || (r19 != 0)) || (decide (r005 < (times : Int))))) (r := decide (r016 < (times : Int))) rfl rfl (fun hb => gd_of (c := !(((r18 != 0) || (r19 != 0)) || (decide (r005 < (times : Int))))) (by first | exact hb | (rw [hb]; rfl) | simp_all) (B (decide (r016 < (times : Int)))))) ?_
   refine s_nil ?_
   refine W.cond ((((r18 != 0) || (r19 != 0)) || (decide (r005 < (times : Int)))) || (decide (r016 < (times : Int)))) rfl (fun c206z => ?_) (fun c206z => ?_)
   ·replace hM := M.e_t hM c206z
    refine W.seq ?_
    refine W.region rfl ?_
    refine s_val (x_as (v := B false) rfl) ?_
    refine s_nil ?_
    refine W.ret ?_
    have hX207z := M.e_inr hM hN182z
    subst hX207z
    replace hM := hk175z
    try dsimp only at hM
    have hr_ := M.e_pure hM
    exact ⟨_, resE_tmp rfl, ⟨false, hr_, rfl, (H.pick [] (by decide) rfl)⟩⟩
   replace hM := M.e_f hM c206z
   refine W.skip ?_
   refine W.seq ?_
   refine W.region rfl ?_
   refine s_val (x_fa (a := .pointer (some ⟨b_12, 0, none⟩)) (v := .pointer (some ⟨b_12, 1, none⟩)) rfl (fa_blk (o := 0) Fd35_1 Sz3)) ?_
   refine s_val (x_ld (p := .pointer (some ⟨b_12, 1, none⟩)) (v := I r014) rfl (ldb_sc Sc3 (H.blk (k := 2) rfl) rfl)) ?_
   refine s_val (x_cmp (kd := .i64) (a := r014) (b := 2000) (r := decide (r014 < 2000)) rfl rfl rfl) ?_
   refine s_nil ?_
   refine W.cond (decide (r014 < 2000)) rfl (fun c208z => ?_) (fun c208z => ?_)
   ·replace hM := M.e_t hM c208z
    simp only [decide_eq_true_eq, decide_eq_false_iff_not, beq_iff_eq, bne_iff_ne, beq_eq_false_iff_ne, bne_eq_false_iff_eq, ne_eq, Decidable.not_not] at c208z
    refine W.seq ?_
    refine W.region rfl ?_
    refine s_val (x_ld (p := .pointer (some ⟨b_7, 0, none⟩)) (v := .agg #[u0_2, u1_3, I r02, I r03]) rfl (ldb_ag (ds := [u0_2, u1_3, I r02, I r03]) Ag26 Sz26 (H.blk (k := 6) rfl) rfl rfl)) ?_
    refine s_val (x_mv (v := I (r02 + r3)) rfl) ?_
    refine s_val (x_mv (v := I ((r02 + r3) + r4)) rfl) ?_
    refine s_val (x_fa (a := .pointer (some ⟨b_12, 0, none⟩)) (v := .pointer (some ⟨b_12, 1, none⟩)) rfl (fa_blk (o := 0) Fd35_1 Sz3)) ?_
    refine s_val (x_ld (p := .pointer (some ⟨b_12, 1, none⟩)) (v := I r014) rfl (ldb_sc Sc3 (H.blk (k := 2) rfl) rfl)) ?_
    obtain ⟨sd209z, hM⟩ := M.e_grd hM
    simp only [Bool.and_eq_true, decide_eq_true_eq] at sd209z
    refine s_val (x_ari (a := r014) (b := 1) (r := r014 + 1) rfl rfl rfl (by omega)) ?_
    obtain ⟨r211z, hx210z, hM⟩ := M.e_bind hM
    refine s_call cf15 [.agg #[u0_2, u1_3, I r02, I r03], I (r02 + r3), I ((r02 + r3) + r4), I (r014 + 1)] rfl (zad r00 r01 r02 r03 (r02 + r3) ((r02 + r3) + r4) (r014 + 1) (Reads.of (k := 7) rfl ownLe) (ownSl (H.get (k := 7) rfl)) (Reads.sup (Reads.of (k := 8) rfl ownLe) (Reads.of (k := 9) rfl roLe)) (rowSl rfl (H.get (k := 8) rfl) (roLe _ (H.get (k := 9) rfl)) hf9z) hx210z _ (St.give (T := [cBlk b_14 [I r006, I r016] 35, cBlk b_13 [I r005, I r015] 35, cBlk b_12 [I r004, I r014] 35, cBlk b_11 [I r003, I r013] 35, cOwn (α := Bool) 4 v39z ([false, true]), cBlk b_8 [I r002, I r012] 35, cBlk b_7 [u0_2, u1_3, I r02, I r03] 26, cOwn (α := Yr) 41 u0_2 r00, cOwn (α := Raw 3) 43 u1_3 rr2_4, cRo Bs3_5, cOwn (α := Int) 3 u4_6 r12, cBlk nb0_1 [v_numbers, I q1, I q2] 101]) H rfl)) ?_
    rintro vq w212z ⟨r007, r017, r110, hr213z, hvq, H2_⟩
    subst hr213z
    subst vq
    try dsimp only at hM
    replace H : St w w212z [cBlk b_14 [I r006, I r016] 35, cBlk b_13 [I r005, I r015] 35, cBlk b_12 [I r004, I r014] 35, cBlk b_11 [I r003, I r013] 35, cOwn (α := Bool) 4 v39z ([false, true]), cBlk b_8 [I r002, I r012] 35, cBlk b_7 [u0_2, u1_3, I r02, I r03] 26, cOwn (α := Yr) 41 u0_2 r00, cOwn (α := Raw 3) 43 u1_3 rr2_4, cRo Bs3_5, cOwn (α := Int) 3 u4_6 r12, cBlk nb0_1 [v_numbers, I q1, I q2] 101] R := H.back H2_ rfl
    clear H2_
    refine s_val (x_mv (v := .tuple #[.agg #[I r007, I r017], I r110]) rfl) ?_
    refine s_val (x_ext (vs := [.agg #[I r007, I r017], I r110]) (v := .agg #[I r007, I r017]) rfl rfl) ?_
    refine s_val (x_ext (vs := [.agg #[I r007, I r017], I r110]) (v := I r110) rfl rfl) ?_
    refine t_alloc (cs := [I 0, I 0]) H Al35 rfl ?_
    intro b_15 w214z H
    refine t_st (k := 0) (b := b_15) (off := 0) (cs := [I 0, I 0]) (vs := [I r007, I r017]) (cs' := [I r007, I r017]) (v := .agg #[I r007, I r017]) (L' := [cBlk b_15 [I r007, I r017] 35, cBlk b_14 [I r006, I r016] 35, cBlk b_13 [I r005, I r015] 35, cBlk b_12 [I r004, I r014] 35, cBlk b_11 [I r003, I r013] 35, cOwn (α := Bool) 4 v39z ([false, true]), cBlk b_8 [I r002, I r012] 35, cBlk b_7 [u0_2, u1_3, I r02, I r03] 26, cOwn (α := Yr) 41 u0_2 r00, cOwn (α := Raw 3) 43 u1_3 rr2_4, cRo Bs3_5, cOwn (α := Int) 3 u4_6 r12, cBlk nb0_1 [v_numbers, I q1, I q2] 101]) H rfl rfl rfl Sz35 rfl rfl rfl rfl rfl rfl ?_
    intro w215z H
    refine s_val (x_as (v := I r110) rfl) ?_
    refine s_nil ?_
    refine W.seq ?_
    refine W.region rfl ?_
    refine s_val (x_mv (v := I r110) rfl) ?_
    refine s_val (x_cmp (kd := .i64) (a := r110) (b := 0) (r := r110 != 0) rfl rfl rfl) ?_
    refine s_val (x_mv (v := B (r110 != 0)) rfl) ?_
    refine g_val (!(r110 != 0)) (gy_f rfl) (fun hg => x_fa (a := .pointer (some ⟨b_15, 0, none⟩)) (v := .pointer (some ⟨b_15, 1, none⟩)) rfl (fa_blk (o := 0) Fd35_1 Sz3)) ?_
    refine g_val (!(r110 != 0)) (gy_f rfl) (fun hg => x_ld (p := .pointer (some ⟨b_15, 1, none⟩)) (v := I r017) (gd_of (c := !(r110 != 0)) hg (.pointer (some ⟨b_15, 1, none⟩))) (ldb_sc Sc3 (H.blk (k := 0) rfl) rfl)) ?_
    refine g_val (!(r110 != 0)) (gy_f rfl) (fun hg => x_mv (v := I (times : Int)) rfl) ?_
    refine g_val (!(r110 != 0)) (gy_f rfl) (fun hg => x_cmp (kd := .i64) (a := r017) (b := (times : Int)) (r := decide ((times : Int) <= r017)) (gd_of (c := !(r110 != 0)) hg (I r017)) (gd_of (c := !(r110 != 0)) hg (I (times : Int))) rfl) ?_
    refine s_val (x_por (b := r110 != 0) (r := decide ((times : Int) <= r017)) rfl rfl (fun hb => gd_of (c := !(r110 != 0)) (by first | exact hb | (rw [hb]; rfl) | simp_all) (B (decide ((times : Int) <= r017))))) ?_
    refine s_nil ?_
    refine W.cond ((r110 != 0) || (decide ((times : Int) <= r017))) rfl (fun c216z => ?_) (fun c216z => ?_)
    ·replace hM := M.e_t hM c216z
     refine W.seq ?_
     refine W.region rfl ?_
     refine s_val (x_as (v := B false) rfl) ?_
     refine s_nil ?_
     refine W.ret ?_
     have hX217z := M.e_inr hM hN182z
     subst hX217z
     replace hM := hk175z
     try dsimp only at hM
     have hr_ := M.e_pure hM
     exact ⟨_, resE_tmp rfl, ⟨false, hr_, rfl, (H.pick [] (by decide) rfl)⟩⟩
    replace hM := M.e_f hM c216z
    refine W.skip ?_
    refine W.region rfl ?_
    refine s_val (x_mv (v := I (times : Int)) rfl) ?_
    obtain ⟨sd218z, hM⟩ := M.e_grd hM
    simp only [Bool.and_eq_true, decide_eq_true_eq] at sd218z
    refine s_val (x_ari (a := (times : Int)) (b := 1) (r := (times : Int) + 1) rfl rfl rfl (by omega)) ?_
    refine s_val (x_as (v := I ((times : Int) + 1)) rfl) ?_
    refine s_nil ?_
    exact ⟨m179z, lt180z, times + 1, _, upds_of _ _ ⟨rfl, rfl, rfl, rfl, trivial⟩, M.e_inl hM hN182z, (H.pick [4, 5, 6, 7, 8, 9, 10, 11, 12] (by decide) rfl)⟩
   replace hM := M.e_f hM c208z
   simp only [decide_eq_true_eq, decide_eq_false_iff_not, beq_iff_eq, bne_iff_ne, beq_eq_false_iff_ne, bne_eq_false_iff_eq, ne_eq, Decidable.not_not] at c208z
   refine W.skip ?_
   refine W.region rfl ?_
   refine s_val (x_mv (v := I (times : Int)) rfl) ?_
   obtain ⟨sd219z, hM⟩ := M.e_grd hM
   simp only [Bool.and_eq_true, decide_eq_true_eq] at sd219z
   refine s_val (x_ari (a := (times : Int)) (b := 1) (r := (times : Int) + 1) rfl rfl rfl (by omega)) ?_
   refine s_val (x_as (v := I ((times : Int) + 1)) rfl) ?_
   refine s_nil ?_
   exact ⟨m179z, lt180z, times + 1, _, upds_of _ _ ⟨rfl, rfl, rfl, rfl, trivial⟩, M.e_inl hM hN182z, (H.pick [3, 4, 5, 6, 7, 8, 9, 10, 11] (by decide) rfl)⟩
  replace hM := M.e_f hM c185z
  simp only [decide_eq_true_eq, decide_eq_false_iff_not, beq_iff_eq, bne_iff_ne, beq_eq_false_iff_ne, bne_eq_false_iff_eq, ne_eq, Decidable.not_not] at c185z
  refine W.exit ?_
  have hX220z := M.e_inr hM hN182z
  subst hX220z
  replace hM := hk175z
  try dsimp only at hM
  refine W.seq ?_
  refine W.region rfl ?_
  obtain ⟨r222z, hx221z, hM⟩ := M.e_bind hM
  refine s_call cf18 [] rfl (zbO hx221z _ (St.give (T := [cBlk b_11 [I r003, I r013] 35, cOwn (α := Bool) 4 v39z ([false, true]), cBlk b_8 [I r002, I r012] 35, cBlk b_7 [u0_2, u1_3, I r02, I r03] 26, cOwn (α := Yr) 41 u0_2 r00, cOwn (α := Raw 3) 43 u1_3 rr2_4, cRo Bs3_5, cOwn (α := Int) 3 u4_6 r12, cBlk nb0_1 [v_numbers, I q1, I q2] 101]) H rfl)) ?_
  rintro vq w223z ⟨r8, hr224z, hvq, H2_⟩
  subst hr224z
  subst vq
  try dsimp only at hM
  replace H : St w w223z [cBlk b_11 [I r003, I r013] 35, cOwn (α := Bool) 4 v39z ([false, true]), cBlk b_8 [I r002, I r012] 35, cBlk b_7 [u0_2, u1_3, I r02, I r03] 26, cOwn (α := Yr) 41 u0_2 r00, cOwn (α := Raw 3) 43 u1_3 rr2_4, cRo Bs3_5, cOwn (α := Int) 3 u4_6 r12, cBlk nb0_1 [v_numbers, I q1, I q2] 101] R := H.back H2_ rfl
  clear H2_
  refine s_val (x_as (v := B r8) rfl) ?_
  refine s_nil ?_
  refine W.ret ?_
  have hr_ := M.e_pure hM
  exact ⟨_, resE_tmp rfl, ⟨r8, hr_, rfl, (H.pick [] (by decide) rfl)⟩⟩
 skip
 refine t_alloc (cs := [I 0, I 0]) H Al35 rfl ?_
 intro b_11 w225z H
 refine s_nil ⟨(H.pick [1, 2, 3, 4, 5, 6, 7, 8] (by decide) rfl), ?_⟩
 refine t_l rfl ?_
 obtain ⟨r227z, hx226z, hM⟩ := M.e_bind hM
 refine s_call cf13 [I more, I 400] rfl (za3 more 400 hx226z _ (St.give (T := [cBlk b_11 [I 0, I 0] 35, cOwn (α := Bool) 4 v39z ([false, true]), cBlk b_8 [I r002, I r012] 35, cBlk b_7 [u0_2, u1_3, I r02, I r03] 26, cOwn (α := Yr) 41 u0_2 r00, cOwn (α := Raw 3) 43 u1_3 rr2_4, cRo Bs3_5, cOwn (α := Int) 3 u4_6 r12, cBlk nb0_1 [v_numbers, I q1, I q2] 101]) H rfl)) ?_
 rintro vq w228z ⟨r7, hr229z, hvq, H2_⟩
 subst hr229z
 subst vq
 try dsimp only at hM
 replace H : St w w228z [cBlk b_11 [I 0, I 0] 35, cOwn (α := Bool) 4 v39z ([false, true]), cBlk b_8 [I r002, I r012] 35, cBlk b_7 [u0_2, u1_3, I r02, I r03] 26, cOwn (α := Yr) 41 u0_2 r00, cOwn (α := Raw 3) 43 u1_3 rr2_4, cRo Bs3_5, cOwn (α := Int) 3 u4_6 r12, cBlk nb0_1 [v_numbers, I q1, I q2] 101] R := H.back H2_ rfl
 clear H2_
 refine s_nil ⟨(H.pick [1, 2, 3, 4, 5, 6, 7, 8] (by decide) rfl), ?_⟩
 obtain ⟨sd230z, hM⟩ := M.e_grd hM
 simp only [Bool.and_eq_true, decide_eq_true_eq] at sd230z
 refine t_q rfl (fun w' H => x_ari (a := r5) (b := r7) (r := r5 + r7) rfl rfl rfl (by omega)) ?_
 refine t_q rfl (fun w' H => x_min (kd := .i64) (a := 2000) (b := r5 + r7) rfl rfl) ?_
 refine t_l rfl ?_
 obtain ⟨r232z, hx231z, hM⟩ := M.e_bind hM
 refine s_call cf15 [.agg #[u0_2, u1_3, I r02, I r03], I (r02 + r3), I ((r02 + r3) + r4), I (min 2000 (r5 + r7))] rfl (zad r00 r01 r02 r03 (r02 + r3) ((r02 + r3) + r4) (min 2000 (r5 + r7)) (Reads.of (k := 4) rfl ownLe) (ownSl (H.get (k := 4) rfl)) (Reads.sup (Reads.of (k := 5) rfl ownLe) (Reads.of (k := 6) rfl roLe)) (rowSl rfl (H.get (k := 5) rfl) (roLe _ (H.get (k := 6) rfl)) hf9z) hx231z _ (St.give (T := [cBlk b_11 [I 0, I 0] 35, cOwn (α := Bool) 4 v39z ([false, true]), cBlk b_8 [I r002, I r012] 35, cBlk b_7 [u0_2, u1_3, I r02, I r03] 26, cOwn (α := Yr) 41 u0_2 r00, cOwn (α := Raw 3) 43 u1_3 rr2_4, cRo Bs3_5, cOwn (α := Int) 3 u4_6 r12, cBlk nb0_1 [v_numbers, I q1, I q2] 101]) H rfl)) ?_
 rintro vq w233z ⟨r003, r013, r16, hr234z, hvq, H2_⟩
 subst hr234z
 subst vq
 try dsimp only at hM
 replace H : St w w233z [cBlk b_11 [I 0, I 0] 35, cOwn (α := Bool) 4 v39z ([false, true]), cBlk b_8 [I r002, I r012] 35, cBlk b_7 [u0_2, u1_3, I r02, I r03] 26, cOwn (α := Yr) 41 u0_2 r00, cOwn (α := Raw 3) 43 u1_3 rr2_4, cRo Bs3_5, cOwn (α := Int) 3 u4_6 r12, cBlk nb0_1 [v_numbers, I q1, I q2] 101] R := H.back H2_ rfl
 clear H2_
 refine s_nil ⟨(H.pick [1, 2, 3, 4, 5, 6, 7, 8] (by decide) rfl), ?_⟩
 refine t_q rfl (fun w' H => x_mv (v := .tuple #[.agg #[I r003, I r013], I r16]) rfl) ?_
 refine t_q rfl (fun w' H => x_ext (vs := [.agg #[I r003, I r013], I r16]) (v := .agg #[I r003, I r013]) rfl rfl) ?_
 refine t_q rfl (fun w' H => x_ext (vs := [.agg #[I r003, I r013], I r16]) (v := I r16) rfl rfl) ?_
 refine t_l rfl ?_
 refine t_st (k := 0) (b := b_11) (off := 0) (cs := [I 0, I 0]) (vs := [I r003, I r013]) (cs' := [I r003, I r013]) (v := .agg #[I r003, I r013]) (L' := [cBlk b_11 [I r003, I r013] 35, cOwn (α := Bool) 4 v39z ([false, true]), cBlk b_8 [I r002, I r012] 35, cBlk b_7 [u0_2, u1_3, I r02, I r03] 26, cOwn (α := Yr) 41 u0_2 r00, cOwn (α := Raw 3) 43 u1_3 rr2_4, cRo Bs3_5, cOwn (α := Int) 3 u4_6 r12, cBlk nb0_1 [v_numbers, I q1, I q2] 101]) H rfl rfl rfl Sz35 rfl rfl rfl rfl rfl rfl ?_
 intro w235z H
 refine s_nil ⟨(H.pick [1, 2, 3, 4, 5, 6, 7, 8] (by decide) rfl), ?_⟩
 refine t_q rfl (fun w' H => x_as (v := I r16) rfl) ?_
 refine t_nil ?_
 refine W.seq ?_
 refine W.seq ?_
 refine W.region rfl ?_
 refine s_val (x_mv (v := I r16) rfl) ?_
 refine s_val (x_cmp (kd := .i64) (a := r16) (b := 0) (r := r16 != 0) rfl rfl rfl) ?_
 refine s_val (x_mv (v := B (r16 != 0)) rfl) ?_
 refine g_val (!(r16 != 0)) (gy_f rfl) (fun hg => x_fa (a := .pointer (some ⟨b_11, 0, none⟩)) (v := .pointer (some ⟨b_11, 0, none⟩)) rfl (fa_blk (o := 0) Fd35_0 Sz3)) ?_
 refine g_val (!(r16 != 0)) (gy_f rfl) (fun hg => x_ld (p := .pointer (some ⟨b_11, 0, none⟩)) (v := I r003) (gd_of (c := !(r16 != 0)) hg (.pointer (some ⟨b_11, 0, none⟩))) (ldb_sc Sc3 (H.blk (k := 0) rfl) rfl)) ?_
 refine g_val (!(r16 != 0)) (gy_f rfl) (fun hg => x_fa (a := .pointer (some ⟨b_8, 0, none⟩)) (v := .pointer (some ⟨b_8, 0, none⟩)) rfl (fa_blk (o := 0) Fd35_0 Sz3)) ?_
 refine g_val (!(r16 != 0)) (gy_f rfl) (fun hg => x_ld (p := .pointer (some ⟨b_8, 0, none⟩)) (v := I r002) (gd_of (c := !(r16 != 0)) hg (.pointer (some ⟨b_8, 0, none⟩))) (ldb_sc Sc3 (H.blk (k := 2) rfl) rfl)) ?_
 refine g_val (!(r16 != 0)) (gy_f rfl) (fun hg => x_cmp (kd := .i64) (a := r003) (b := r002) (r := decide (r002 < r003)) (gd_of (c := !(r16 != 0)) hg (I r003)) (gd_of (c := !(r16 != 0)) hg (I r002)) rfl) ?_
 refine s_val (x_por (b := r16 != 0) (r := decide (r002 < r003)) rfl rfl (fun hb => gd_of (c := !(r16 != 0)) (by first | exact hb | (rw [hb]; rfl) | simp_all) (B (decide (r002 < r003))))) ?_
 refine s_val (x_mv (v := B ((r16 != 0) || (decide (r002 < r003)))) rfl) ?_
 refine g_val (!((r16 != 0) || (decide (r002 < r003)))) (gy_f rfl) (fun hg => x_fa (a := .pointer (some ⟨b_11, 0, none⟩)) (v := .pointer (some ⟨b_11, 1, none⟩)) rfl (fa_blk (o := 0) Fd35_1 Sz3)) ?_
 refine g_val (!((r16 != 0) || (decide (r002 < r003)))) (gy_f rfl) (fun hg => x_ld (p := .pointer (some ⟨b_11, 1, none⟩)) (v := I r013) (gd_of (c := !((r16 != 0) || (decide (r002 < r003)))) hg (.pointer (some ⟨b_11, 1, none⟩))) (ldb_sc Sc3 (H.blk (k := 0) rfl) rfl)) ?_
 refine g_val (!((r16 != 0) || (decide (r002 < r003)))) (gy_f rfl) (fun hg => x_fa (a := .pointer (some ⟨b_8, 0, none⟩)) (v := .pointer (some ⟨b_8, 1, none⟩)) rfl (fa_blk (o := 0) Fd35_1 Sz3)) ?_
 refine g_val (!((r16 != 0) || (decide (r002 < r003)))) (gy_f rfl) (fun hg => x_ld (p := .pointer (some ⟨b_8, 1, none⟩)) (v := I r012) (gd_of (c := !((r16 != 0) || (decide (r002 < r003)))) hg (.pointer (some ⟨b_8, 1, none⟩))) (ldb_sc Sc3 (H.blk (k := 2) rfl) rfl)) ?_
 refine g_val (!((r16 != 0) || (decide (r002 < r003)))) (gy_f rfl) (fun hg => x_cmp (kd := .i64) (a := r013) (b := r012) (r := decide (r012 < r013)) (gd_of (c := !((r16 != 0) || (decide (r002 < r003)))) hg (I r013)) (gd_of (c := !((r16 != 0) || (decide (r002 < r003)))) hg (I r012)) rfl) ?_
 refine s_val (x_por (b := ((r16 != 0) || (decide (r002 < r003)))) (r := decide (r012 < r013)) rfl rfl (fun hb => gd_of (c := !((r16 != 0) || (decide (r002 < r003)))) (by first | exact hb | (rw [hb]; rfl) | simp_all) (B (decide (r012 < r013))))) ?_
 refine s_nil ?_
 refine W.cond (((r16 != 0) || (decide (r002 < r003))) || (decide (r012 < r013))) rfl (fun c236z => ?_) (fun c236z => ?_)
 ·replace hM := M.e_t hM c236z
  refine W.seq ?_
  refine W.region rfl ?_
  refine s_val (x_as (v := B false) rfl) ?_
  refine s_nil ?_
  refine W.ret ?_
  have hr_ := M.e_pure hM
  exact ⟨_, resE_tmp rfl, ⟨false, hr_, rfl, (H.pick [] (by decide) rfl)⟩⟩
 replace hM := M.e_f hM c236z
 refine W.skip ?_
 refine W.seq ?_
 refine W.seq ?_
 refine W.region rfl ?_
 refine s_val (x_as (v := I 1) rfl) ?_
 refine s_nil ?_
 refine W.block ?_
 obtain ⟨ex237z, hi238z, hk239z⟩ := M.e_bind hM
 obtain ⟨m0_, hi238z⟩ := M.e_iter hi238z
 refine W.loop (fun m σ W => ∃ (times : Nat) (ρ : Env), σ = upds ρ [(11, .pointer (some ⟨b_7, 0, none⟩)), (13, I (r02 + r3)), (14, I ((r02 + r3) + r4)), (25, I (times : Int))] /\ M.iterN (zai r00 r01 r02 r03 r3 r4) m times = some ex237z /\ St w W [cBlk b_11 [I r003, I r013] 35, cOwn (α := Bool) 4 v39z ([false, true]), cBlk b_8 [I r002, I r012] 35, cBlk b_7 [u0_2, u1_3, I r02, I r03] 26, cOwn (α := Yr) 41 u0_2 r00, cOwn (α := Raw 3) 43 u1_3 rr2_4, cRo Bs3_5, cOwn (α := Int) 3 u4_6 r12, cBlk nb0_1 [v_numbers, I q1, I q2] 101] R) ?_ ?_
 ·exact ⟨_, 1, _, upds_of _ _ ⟨rfl, rfl, rfl, rfl, trivial⟩, hi238z, H⟩
 rintro m242z σ w240z ⟨times, ρ, rfl, hI241z, H⟩
 obtain ⟨m243z, lt244z, x245z, hM, hN246z⟩ := M.e_iterN hI241z
 simp only [zai] at hM
 clear hI241z
 refine W.seq ?_
 refine W.seq ?_
 refine W.region rfl ?_
 refine s_val (x_mv (v := I (times : Int)) rfl) ?_
 refine s_val (x_mv (v := I ((r02 + r3) + r4)) rfl) ?_
 refine s_val (x_mv (v := I (r02 + r3)) rfl) ?_
 obtain ⟨sd247z, hM⟩ := M.e_grd hM
 simp only [Bool.and_eq_true, decide_eq_true_eq] at sd247z
 refine s_val (x_ari (a := (r02 + r3) + r4) (b := r02 + r3) (r := ((r02 + r3) + r4) - (r02 + r3)) rfl rfl rfl (by omega)) ?_
 obtain ⟨sd248z, hM⟩ := M.e_grd hM
 simp only [Bool.and_eq_true, decide_eq_true_eq] at sd248z
 refine s_val (x_ari (a := ((r02 + r3) + r4) - (r02 + r3)) (b := 1) (r := (((r02 + r3) + r4) - (r02 + r3)) + 1) rfl rfl rfl (by omega)) ?_
 refine s_val (x_cmp (kd := .i64) (a := (times : Int)) (b := (((r02 + r3) + r4) - (r02 + r3)) + 1) (r := decide ((times : Int) <= ((((r02 + r3) + r4) - (r02 + r3)) + 1))) rfl rfl rfl) ?_
 refine s_nil ?_
 refine W.cond (decide ((times : Int) <= ((((r02 + r3) + r4) - (r02 + r3)) + 1))) rfl (fun c249z => ?_) (fun c249z => ?_)
 ·replace hM := M.e_t hM c249z
  simp only [decide_eq_true_eq, decide_eq_false_iff_not, beq_iff_eq, bne_iff_ne, beq_eq_false_iff_ne, bne_eq_false_iff_eq, ne_eq, Decidable.not_not] at c249z
  refine W.skip ?_
  refine W.seq ?_
  refine W.block ?_
  refine W.seq ?_
  refine W.region rfl ?_
  refine s_val (x_ld (p := .pointer (some ⟨b_7, 0, none⟩)) (v := .agg #[u0_2, u1_3, I r02, I r03]) rfl (ldb_ag (ds := [u0_2, u1_3, I r02, I r03]) Ag26 Sz26 (H.blk (k := 3) rfl) rfl rfl)) ?_
  refine s_val (x_mv (v := I (r02 + r3)) rfl) ?_
  refine s_val (x_mv (v := I ((r02 + r3) + r4)) rfl) ?_
  refine s_val (x_mv (v := I (times : Int)) rfl) ?_
  obtain ⟨r251z, hx250z, hM⟩ := M.e_bind hM
  refine s_call cf17 [.agg #[u0_2, u1_3, I r02, I r03], I (r02 + r3), I ((r02 + r3) + r4), I (times : Int)] rfl (zbg r00 r01 r02 r03 (r02 + r3) ((r02 + r3) + r4) (times : Int) (Reads.of (k := 4) rfl ownLe) (ownSl (H.get (k := 4) rfl)) (Reads.sup (Reads.of (k := 5) rfl ownLe) (Reads.of (k := 6) rfl roLe)) (rowSl rfl (H.get (k := 5) rfl) (roLe _ (H.get (k := 6) rfl)) hf9z) hx250z _ (St.give (T := [cBlk b_11 [I r003, I r013] 35, cOwn (α := Bool) 4 v39z ([false, true]), cBlk b_8 [I r002, I r012] 35, cBlk b_7 [u0_2, u1_3, I r02, I r03] 26, cOwn (α := Yr) 41 u0_2 r00, cOwn (α := Raw 3) 43 u1_3 rr2_4, cRo Bs3_5, cOwn (α := Int) 3 u4_6 r12, cBlk nb0_1 [v_numbers, I q1, I q2] 101]) H rfl)) ?_
  rintro vq w252z ⟨r004, r014, r17, hr253z, hvq, H2_⟩
  subst hr253z
  subst vq
  try dsimp only at hM
  replace H : St w w252z [cBlk b_11 [I r003, I r013] 35, cOwn (α := Bool) 4 v39z ([false, true]), cBlk b_8 [I r002, I r012] 35, cBlk b_7 [u0_2, u1_3, I r02, I r03] 26, cOwn (α := Yr) 41 u0_2 r00, cOwn (α := Raw 3) 43 u1_3 rr2_4, cRo Bs3_5, cOwn (α := Int) 3 u4_6 r12, cBlk nb0_1 [v_numbers, I q1, I q2] 101] R := H.back H2_ rfl
  clear H2_
  refine s_val (x_mv (v := .tuple #[.agg #[I r004, I r014], I r17]) rfl) ?_
  refine s_val (x_ext (vs := [.agg #[I r004, I r014], I r17]) (v := .agg #[I r004, I r014]) rfl rfl) ?_
  refine s_val (x_ext (vs := [.agg #[I r004, I r014], I r17]) (v := I r17) rfl rfl) ?_
  refine t_alloc (cs := [I 0, I 0]) H Al35 rfl ?_
  intro b_12 w254z H
  refine t_st (k := 0) (b := b_12) (off := 0) (cs := [I 0, I 0]) (vs := [I r004, I r014]) (cs' := [I r004, I r014]) (v := .agg #[I r004, I r014]) (L' := [cBlk b_12 [I r004, I r014] 35, cBlk b_11 [I r003, I r013] 35, cOwn (α := Bool) 4 v39z ([false, true]), cBlk b_8 [I r002, I r012] 35, cBlk b_7 [u0_2, u1_3, I r02, I r03] 26, cOwn (α := Yr) 41 u0_2 r00, cOwn (α := Raw 3) 43 u1_3 rr2_4, cRo Bs3_5, cOwn (α := Int) 3 u4_6 r12, cBlk nb0_1 [v_numbers, I q1, I q2] 101]) H rfl rfl rfl Sz35 rfl rfl rfl rfl rfl rfl ?_
  intro w255z H
  refine s_val (x_as (v := I r17) rfl) ?_
  refine s_nil ?_
  refine W.seq ?_
  refine W.seq ?_
  refine W.region rfl ?_
  refine s_val (x_mv (v := I r17) rfl) ?_
  refine s_val (x_cmp (kd := .i64) (a := r17) (b := 0) (r := r17 != 0) rfl rfl rfl) ?_
  refine s_val (x_mv (v := B (r17 != 0)) rfl) ?_
  refine g_val (!(r17 != 0)) (gy_f rfl) (fun hg => x_fa (a := .pointer (some ⟨b_12, 0, none⟩)) (v := .pointer (some ⟨b_12, 0, none⟩)) rfl (fa_blk (o := 0) Fd35_0 Sz3)) ?_
  refine g_val (!(r17 != 0)) (gy_f rfl) (fun hg => x_ld (p := .pointer (some ⟨b_12, 0, none⟩)) (v := I r004) (gd_of (c := !(r17 != 0)) hg (.pointer (some ⟨b_12, 0, none⟩))) (ldb_sc Sc3 (H.blk (k := 0) rfl) rfl)) ?_
  refine g_val (!(r17 != 0)) (gy_f rfl) (fun hg => x_fa (a := .pointer (some ⟨b_12, 0, none⟩)) (v := .pointer (some ⟨b_12, 1, none⟩)) rfl (fa_blk (o := 0) Fd35_1 Sz3)) ?_
  refine g_val (!(r17 != 0)) (gy_f rfl) (fun hg => x_ld (p := .pointer (some ⟨b_12, 1, none⟩)) (v := I r014) (gd_of (c := !(r17 != 0)) hg (.pointer (some ⟨b_12, 1, none⟩))) (ldb_sc Sc3 (H.blk (k := 0) rfl) rfl)) ?_
  refine g_val (!(r17 != 0)) (gy_f rfl) (fun hg => x_cmp (kd := .i64) (a := r004) (b := r014) (r := decide (r014 < r004)) (gd_of (c := !(r17 != 0)) hg (I r004)) (gd_of (c := !(r17 != 0)) hg (I r014)) rfl) ?_
  refine s_val (x_por (b := r17 != 0) (r := decide (r014 < r004)) rfl rfl (fun hb => gd_of (c := !(r17 != 0)) (by first | exact hb | (rw [hb]; rfl) | simp_all) (B (decide (r014 < r004))))) ?_
  refine s_nil ?_
  refine W.cond ((r17 != 0) || (decide (r014 < r004))) rfl (fun c256z => ?_) (fun c256z => ?_)
  ·replace hM := M.e_t hM c256z
   refine W.seq ?_
   refine W.region rfl ?_
   refine s_val (x_as (v := B false) rfl) ?_
   refine s_nil ?_
   refine W.ret ?_
   have hX257z := M.e_inr hM hN246z
   subst hX257z
   replace hM := hk239z
   try dsimp only at hM
   have hr_ := M.e_pure hM
   exact ⟨_, resE_tmp rfl, ⟨false, hr_, rfl, (H.pick [] (by decide) rfl)⟩⟩
  replace hM := M.e_f hM c256z
  refine W.skip ?_
  refine W.seq ?_
  refine W.region rfl ?_
  refine s_val (x_ld (p := .pointer (some ⟨b_7, 0, none⟩)) (v := .agg #[u0_2, u1_3, I r02, I r03]) rfl (ldb_ag (ds := [u0_2, u1_3, I r02, I r03]) Ag26 Sz26 (H.blk (k := 4) rfl) rfl rfl)) ?_
  refine s_val (x_mv (v := I (r02 + r3)) rfl) ?_
  refine s_val (x_mv (v := I ((r02 + r3) + r4)) rfl) ?_
  refine s_val (x_fa (a := .pointer (some ⟨b_12, 0, none⟩)) (v := .pointer (some ⟨b_12, 0, none⟩)) rfl (fa_blk (o := 0) Fd35_0 Sz3)) ?_
  refine s_val (x_ld (p := .pointer (some ⟨b_12, 0, none⟩)) (v := I r004) rfl (ldb_sc Sc3 (H.blk (k := 0) rfl) rfl)) ?_
  obtain ⟨r259z, hx258z, hM⟩ := M.e_bind hM
  refine s_call cf15 [.agg #[u0_2, u1_3, I r02, I r03], I (r02 + r3), I ((r02 + r3) + r4), I r004] rfl (zad r00 r01 r02 r03 (r02 + r3) ((r02 + r3) + r4) r004 (Reads.of (k := 5) rfl ownLe) (ownSl (H.get (k := 5) rfl)) (Reads.sup (Reads.of (k := 6) rfl ownLe) (Reads.of (k := 7) rfl roLe)) (rowSl rfl (H.get (k := 6) rfl) (roLe _ (H.get (k := 7) rfl)) hf9z) hx258z _ (St.give (T := [cBlk b_12 [I r004, I r014] 35, cBlk b_11 [I r003, I r013] 35, cOwn (α := Bool) 4 v39z ([false, true]), cBlk b_8 [I r002, I r012] 35, cBlk b_7 [u0_2, u1_3, I r02, I r03] 26, cOwn (α := Yr) 41 u0_2 r00, cOwn (α := Raw 3) 43 u1_3 rr2_4, cRo Bs3_5, cOwn (α := Int) 3 u4_6 r12, cBlk nb0_1 [v_numbers, I q1, I q2] 101]) H rfl)) ?_
  rintro vq w260z ⟨r005, r015, r18, hr261z, hvq, H2_⟩
  subst hr261z
  subst vq
  try dsimp only at hM
  replace H : St w w260z [cBlk b_12 [I r004, I r014] 35, cBlk b_11 [I r003, I r013] 35, cOwn (α := Bool) 4 v39z ([false, true]), cBlk b_8 [I r002, I r012] 35, cBlk b_7 [u0_2, u1_3, I r02, I r03] 26, cOwn (α := Yr) 41 u0_2 r00, cOwn (α := Raw 3) 43 u1_3 rr2_4, cRo Bs3_5, cOwn (α := Int) 3 u4_6 r12, cBlk nb0_1 [v_numbers, I q1, I q2] 101] R := H.back H2_ rfl
  clear H2_
  refine s_val (x_mv (v := .tuple #[.agg #[I r005, I r015], I r18]) rfl) ?_
  refine s_val (x_ext (vs := [.agg #[I r005, I r015], I r18]) (v := .agg #[I r005, I r015]) rfl rfl) ?_
  refine s_val (x_ext (vs := [.agg #[I r005, I r015], I r18]) (v := I r18) rfl rfl) ?_
  refine t_alloc (cs := [I 0, I 0]) H Al35 rfl ?_
  intro b_13 w262z H
  refine t_st (k := 0) (b := b_13) (off := 0) (cs := [I 0, I 0]) (vs := [I r005, I r015]) (cs' := [I r005, I r015]) (v := .agg #[I r005, I r015]) (L' := [cBlk b_13 [I r005, I r015] 35, cBlk b_12 [I r004, I r014] 35, cBlk b_11 [I r003, I r013] 35, cOwn (α := Bool) 4 v39z ([false, true]), cBlk b_8 [I r002, I r012] 35, cBlk b_7 [u0_2, u1_3, I r02, I r03] 26, cOwn (α := Yr) 41 u0_2 r00, cOwn (α := Raw 3) 43 u1_3 rr2_4, cRo Bs3_5, cOwn (α := Int) 3 u4_6 r12, cBlk nb0_1 [v_numbers, I q1, I q2] 101]) H rfl rfl rfl Sz35 rfl rfl rfl rfl rfl rfl ?_
  intro w263z H
  refine s_val (x_as (v := I r18) rfl) ?_
  refine s_nil ?_
  refine W.seq ?_
  refine W.region rfl ?_
  refine s_val (x_ld (p := .pointer (some ⟨b_7, 0, none⟩)) (v := .agg #[u0_2, u1_3, I r02, I r03]) rfl (ldb_ag (ds := [u0_2, u1_3, I r02, I r03]) Ag26 Sz26 (H.blk (k := 5) rfl) rfl rfl)) ?_
  refine s_val (x_mv (v := I (r02 + r3)) rfl) ?_
  refine s_val (x_mv (v := I ((r02 + r3) + r4)) rfl) ?_
  refine s_val (x_fa (a := .pointer (some ⟨b_12, 0, none⟩)) (v := .pointer (some ⟨b_12, 1, none⟩)) rfl (fa_blk (o := 0) Fd35_1 Sz3)) ?_
  refine s_val (x_ld (p := .pointer (some ⟨b_12, 1, none⟩)) (v := I r014) rfl (ldb_sc Sc3 (H.blk (k := 1) rfl) rfl)) ?_
  obtain ⟨r265z, hx264z, hM⟩ := M.e_bind hM
  refine s_call cf15 [.agg #[u0_2, u1_3, I r02, I r03], I (r02 + r3), I ((r02 + r3) + r4), I r014] rfl (zad r00 r01 r02 r03 (r02 + r3) ((r02 + r3) + r4) r014 (Reads.of (k := 6) rfl ownLe) (ownSl (H.get (k := 6) rfl)) (Reads.sup (Reads.of (k := 7) rfl ownLe) (Reads.of (k := 8) rfl roLe)) (rowSl rfl (H.get (k := 7) rfl) (roLe _ (H.get (k := 8) rfl)) hf9z) hx264z _ (St.give (T := [cBlk b_13 [I r005, I r015] 35, cBlk b_12 [I r004, I r014] 35, cBlk b_11 [I r003, I r013] 35, cOwn (α := Bool) 4 v39z ([false, true]), cBlk b_8 [I r002, I r012] 35, cBlk b_7 [u0_2, u1_3, I r02, I r03] 26, cOwn (α := Yr) 41 u0_2 r00, cOwn (α := Raw 3) 43 u1_3 rr2_4, cRo Bs3_5, cOwn (α := Int) 3 u4_6 r12, cBlk nb0_1 [v_numbers, I q1, I q2] 101]) H rfl)) ?_
  rintro vq w266z ⟨r006, r016, r19, hr267z, hvq, H2_⟩
  subst hr267z
  subst vq
  try dsimp only at hM
  replace H : St w w266z [cBlk b_13 [I r005, I r015] 35, cBlk b_12 [I r004, I r014] 35, cBlk b_11 [I r003, I r013] 35, cOwn (α := Bool) 4 v39z ([false, true]), cBlk b_8 [I r002, I r012] 35, cBlk b_7 [u0_2, u1_3, I r02, I r03] 26, cOwn (α := Yr) 41 u0_2 r00, cOwn (α := Raw 3) 43 u1_3 rr2_4, cRo Bs3_5, cOwn (α := Int) 3 u4_6 r12, cBlk nb0_1 [v_numbers, I q1, I q2] 101] R := H.back H2_ rfl
  clear H2_
  refine s_val (x_mv (v := .tuple #[.agg #[I r006, I r016], I r19]) rfl) ?_
  refine s_val (x_ext (vs := [.agg #[I r006, I r016], I r19]) (v := .agg #[I r006, I r016]) rfl rfl) ?_
  refine s_val (x_ext (vs := [.agg #[I r006, I r016], I r19]) (v := I r19) rfl rfl) ?_
  refine t_alloc (cs := [I 0, I 0]) H Al35 rfl ?_
  intro b_14 w268z H
  refine t_st (k := 0) (b := b_14) (off := 0) (cs := [I 0, I 0]) (vs := [I r006, I r016]) (cs' := [I r006, I r016]) (v := .agg #[I r006, I r016]) (L' := [cBlk b_14 [I r006, I r016] 35, cBlk b_13 [I r005, I r015] 35, cBlk b_12 [I r004, I r014] 35, cBlk b_11 [I r003, I r013] 35, cOwn (α := Bool) 4 v39z ([false, true]), cBlk b_8 [I r002, I r012] 35, cBlk b_7 [u0_2, u1_3, I r02, I r03] 26, cOwn (α := Yr) 41 u0_2 r00, cOwn (α := Raw 3) 43 u1_3 rr2_4, cRo Bs3_5, cOwn (α := Int) 3 u4_6 r12, cBlk nb0_1 [v_numbers, I q1, I q2] 101]) H rfl rfl rfl Sz35 rfl rfl rfl rfl rfl rfl ?_
  intro w269z H
  refine s_val (x_as (v := I r19) rfl) ?_
  refine s_nil ?_
  refine W.seq ?_
  refine W.seq ?_
  refine W.region rfl ?_
  refine s_val (x_mv (v := I r18) rfl) ?_
  refine s_val (x_cmp (kd := .i64) (a := r18) (b := 0) (r := r18 != 0) rfl rfl rfl) ?_
  refine s_val (x_mv (v := B (r18 != 0)) rfl) ?_
  refine g_val (!(r18 != 0)) (gy_f rfl) (fun hg => x_mv (v := I r19) rfl) ?_
  refine g_val (!(r18 != 0)) (gy_f rfl) (fun hg => x_cmp (kd := .i64) (a := r19) (b := 0) (r := r19 != 0) (gd_of (c := !(r18 != 0)) hg (I r19)) rfl rfl) ?_
  refine s_val (x_por (b := r18 != 0) (r := r19 != 0) rfl rfl (fun hb => gd_of (c := !(r18 != 0)) (by first | exact hb | (rw [hb]; rfl) | simp_all) (B (r19 != 0)))) ?_
  refine s_val (x_mv (v := B ((r18 != 0) || (r19 != 0))) rfl) ?_
  refine g_val (!((r18 != 0) || (r19 != 0))) (gy_f rfl) (fun hg => x_fa (a := .pointer (some ⟨b_13, 0, none⟩)) (v := .pointer (some ⟨b_13, 0, none⟩)) rfl (fa_blk (o := 0) Fd35_0 Sz3)) ?_
  refine g_val (!((r18 != 0) || (r19 != 0))) (gy_f rfl) (fun hg => x_ld (p := .pointer (some ⟨b_13, 0, none⟩)) (v := I r005) (gd_of (c := !((r18 != 0) || (r19 != 0))) hg (.pointer (some ⟨b_13, 0, none⟩))) (ldb_sc Sc3 (H.blk (k := 1) rfl) rfl)) ?_
  refine g_val (!((r18 != 0) || (r19 != 0))) (gy_f rfl) (fun hg => x_mv (v := I (times : Int)) rfl) ?_
  refine g_val (!((r18 != 0) || (r19 != 0))) (gy_f rfl) (fun hg => x_cmp (kd := .i64) (a := r005) (b := (times : Int)) (r := decide (r005 < (times : Int))) (gd_of (c := !((r18 != 0) || (r19 != 0))) hg (I r005)) (gd_of (c := !((r18 != 0) || (r19 != 0))) hg (I (times : Int))) rfl) ?_
  refine s_val (x_por (b := ((r18 != 0) || (r19 != 0))) (r := decide (r005 < (times : Int))) rfl rfl (fun hb => gd_of (c := !((r18 != 0) || (r19 != 0))) (by first | exact hb | (rw [hb]; rfl) | simp_all) (B (decide (r005 < (times : Int)))))) ?_
  refine s_val (x_mv (v := B (((r18 != 0) || (r19 != 0)) || (decide (r005 < (times : Int))))) rfl) ?_
  refine g_val (!(((r18 != 0) || (r19 != 0)) || (decide (r005 < (times : Int))))) (gy_f rfl) (fun hg => x_fa (a := .pointer (some ⟨b_14, 0, none⟩)) (v := .pointer (some ⟨b_14, 1, none⟩)) rfl (fa_blk (o := 0) Fd35_1 Sz3)) ?_
  refine g_val (!(((r18 != 0) || (r19 != 0)) || (decide (r005 < (times : Int))))) (gy_f rfl) (fun hg => x_ld (p := .pointer (some ⟨b_14, 1, none⟩)) (v := I r016) (gd_of (c := !(((r18 != 0) || (r19 != 0)) || (decide (r005 < (times : Int))))) hg (.pointer (some ⟨b_14, 1, none⟩))) (ldb_sc Sc3 (H.blk (k := 0) rfl) rfl)) ?_
  refine g_val (!(((r18 != 0) || (r19 != 0)) || (decide (r005 < (times : Int))))) (gy_f rfl) (fun hg => x_mv (v := I (times : Int)) rfl) ?_
  refine g_val (!(((r18 != 0) || (r19 != 0)) || (decide (r005 < (times : Int))))) (gy_f rfl) (fun hg => x_cmp (kd := .i64) (a := r016) (b := (times : Int)) (r := decide (r016 < (times : Int))) (gd_of (c := !(((r18 != 0) || (r19 != 0)) || (decide (r005 < (times : Int))))) hg (I r016)) (gd_of (c := !(((r18 != 0) || (r19 != 0)) || (decide (r005 < (times : Int))))) hg (I (times : Int))) rfl) ?_
  refine s_val (x_por (b := (((r18 != 0) || (r19 != 0)) || (decide (r005 < (times : Int))))) (r := decide (r016 < (times : Int))) rfl rfl (fun hb => gd_of (c := !(((r18 != 0) || (r19 != 0)) || (decide (r005 < (times : Int))))) (by first | exact hb | (rw [hb]; rfl) | simp_all) (B (decide (r016 < (times : Int)))))) ?_
  refine s_nil ?_
  refine W.cond ((((r18 != 0) || (r19 != 0)) || (decide (r005 < (times : Int)))) || (decide (r016 < (times : Int)))) rfl (fun c270z => ?_) (fun c270z => ?_)
  ·replace hM := M.e_t hM c270z
   refine W.seq ?_
   refine W.region rfl ?_
   refine s_val (x_as (v := B false) rfl) ?_
   refine s_nil ?_
   refine W.ret ?_
   have hX271z := M.e_inr hM hN246z
   subst hX271z
   replace hM := hk239z
   try dsimp only at hM
   have hr_ := M.e_pure hM
   exact ⟨_, resE_tmp rfl, ⟨false, hr_, rfl, (H.pick [] (by decide) rfl)⟩⟩
  replace hM := M.e_f hM c270z
  refine W.skip ?_
  refine W.seq ?_
  refine W.region rfl ?_
  refine s_val (x_fa (a := .pointer (some ⟨b_12, 0, none⟩)) (v := .pointer (some ⟨b_12, 1, none⟩)) rfl (fa_blk (o := 0) Fd35_1 Sz3)) ?_
  refine s_val (x_ld (p := .pointer (some ⟨b_12, 1, none⟩)) (v := I r014) rfl (ldb_sc Sc3 (H.blk (k := 2) rfl) rfl)) ?_
  refine s_val (x_cmp (kd := .i64) (a := r014) (b := 2000) (r := decide (r014 < 2000)) rfl rfl rfl) ?_
  refine s_nil ?_
  refine W.cond (decide (r014 < 2000)) rfl (fun c272z => ?_) (fun c272z => ?_)
  ·replace hM := M.e_t hM c272z
   simp only [decide_eq_true_eq, decide_eq_false_iff_not, beq_iff_eq, bne_iff_ne, beq_eq_false_iff_ne, bne_eq_false_iff_eq, ne_eq, Decidable.not_not] at c272z
   refine W.seq ?_
   refine W.region rfl ?_
   refine s_val (x_ld (p := .pointer (some ⟨b_7, 0, none⟩)) (v := .agg #[u0_2, u1_3, I r02, I r03]) rfl (ldb_ag (ds := [u0_2, u1_3, I r02, I r03]) Ag26 Sz26 (H.blk (k := 6) rfl) rfl rfl)) ?_
   refine s_val (x_mv (v := I (r02 + r3)) rfl) ?_
   refine s_val (x_mv (v := I ((r02 + r3) + r4)) rfl) ?_
   refine s_val (x_fa (a := .pointer (some ⟨b_12, 0, none⟩)) (v := .pointer (some ⟨b_12, 1, none⟩)) rfl (fa_blk (o := 0) Fd35_1 Sz3)) ?_
   refine s_val (x_ld (p := .pointer (some ⟨b_12, 1, none⟩)) (v := I r014) rfl (ldb_sc Sc3 (H.blk (k := 2) rfl) rfl)) ?_
   obtain ⟨sd273z, hM⟩ := M.e_grd hM
   simp only [Bool.and_eq_true, decide_eq_true_eq] at sd273z
   refine s_val (x_ari (a := r014) (b := 1) (r := r014 + 1) rfl rfl rfl (by omega)) ?_
   obtain ⟨r275z, hx274z, hM⟩ := M.e_bind hM
   refine s_call cf15 [.agg #[u0_2, u1_3, I r02, I r03], I (r02 + r3), I ((r02 + r3) + r4), I (r014 + 1)] rfl (zad r00 r01 r02 r03 (r02 + r3) ((r02 + r3) + r4) (r014 + 1) (Reads.of (k := 7) rfl ownLe) (ownSl (H.get (k := 7) rfl)) (Reads.sup (Reads.of (k := 8) rfl ownLe) (Reads.of (k := 9) rfl roLe)) (rowSl rfl (H.get (k := 8) rfl) (roLe _ (H.get (k := 9) rfl)) hf9z) hx274z _ (St.give (T := [cBlk b_14 [I r006, I r016] 35, cBlk b_13 [I r005, I r015] 35, cBlk b_12 [I r004, I r014] 35, cBlk b_11 [I r003, I r013] 35, cOwn (α := Bool) 4 v39z ([false, true]), cBlk b_8 [I r002, I r012] 35, cBlk b_7 [u0_2, u1_3, I r02, I r03] 26, cOwn (α := Yr) 41 u0_2 r00, cOwn (α := Raw 3) 43 u1_3 rr2_4, cRo Bs3_5, cOwn (α := Int) 3 u4_6 r12, cBlk nb0_1 [v_numbers, I q1, I q2] 101]) H rfl)) ?_
   rintro vq w276z ⟨r007, r017, r110, hr277z, hvq, H2_⟩
   subst hr277z
   subst vq
   try dsimp only at hM
   replace H : St w w276z [cBlk b_14 [I r006, I r016] 35, cBlk b_13 [I r005, I r015] 35, cBlk b_12 [I r004, I r014] 35, cBlk b_11 [I r003, I r013] 35, cOwn (α := Bool) 4 v39z ([false, true]), cBlk b_8 [I r002, I r012] 35, cBlk b_7 [u0_2, u1_3, I r02, I r03] 26, cOwn (α := Yr) 41 u0_2 r00, cOwn (α := Raw 3) 43 u1_3 rr2_4, cRo Bs3_5, cOwn (α := Int) 3 u4_6 r12, cBlk nb0_1 [v_numbers, I q1, I q2] 101] R := H.back H2_ rfl
   clear H2_
   refine s_val (x_mv (v := .tuple #[.agg #[I r007, I r017], I r110]) rfl) ?_
   refine s_val (x_ext (vs := [.agg #[I r007, I r017], I r110]) (v := .agg #[I r007, I r017]) rfl rfl) ?_
   refine s_val (x_ext (vs := [.agg #[I r007, I r017], I r110]) (v := I r110) rfl rfl) ?_
   refine t_alloc (cs := [I 0, I 0]) H Al35 rfl ?_
   intro b_15 w278z H
   refine t_st (k := 0) (b := b_15) (off := 0) (cs := [I 0, I 0]) (vs := [I r007, I r017]) (cs' := [I r007, I r017]) (v := .agg #[I r007, I r017]) (L' := [cBlk b_15 [I r007, I r017] 35, cBlk b_14 [I r006, I r016] 35, cBlk b_13 [I r005, I r015] 35, cBlk b_12 [I r004, I r014] 35, cBlk b_11 [I r003, I r013] 35, cOwn (α := Bool) 4 v39z ([false, true]), cBlk b_8 [I r002, I r012] 35, cBlk b_7 [u0_2, u1_3, I r02, I r03] 26, cOwn (α := Yr) 41 u0_2 r00, cOwn (α := Raw 3) 43 u1_3 rr2_4, cRo Bs3_5, cOwn (α := Int) 3 u4_6 r12, cBlk nb0_1 [v_numbers, I q1, I q2] 101]) H rfl rfl rfl Sz35 rfl rfl rfl rfl rfl rfl ?_
   intro w279z H
   refine s_val (x_as (v := I r110) rfl) ?_
   refine s_nil ?_
   refine W.seq ?_
   refine W.region rfl ?_
   refine s_val (x_mv (v := I r110) rfl) ?_
   refine s_val (x_cmp (kd := .i64) (a := r110) (b := 0) (r := r110 != 0) rfl rfl rfl) ?_
   refine s_val (x_mv (v := B (r110 != 0)) rfl) ?_
   refine g_val (!(r110 != 0)) (gy_f rfl) (fun hg => x_fa (a := .pointer (some ⟨b_15, 0, none⟩)) (v := .pointer (some ⟨b_15, 1, none⟩)) rfl (fa_blk (o := 0) Fd35_1 Sz3)) ?_
   refine g_val (!(r110 != 0)) (gy_f rfl) (fun hg => x_ld (p := .pointer (some ⟨b_15, 1, none⟩)) (v := I r017) (gd_of (c := !(r110 != 0)) hg (.pointer (some ⟨b_15, 1, none⟩))) (ldb_sc Sc3 (H.blk (k := 0) rfl) rfl)) ?_
   refine g_val (!(r110 != 0)) (gy_f rfl) (fun hg => x_mv (v := I (times : Int)) rfl) ?_
   refine g_val (!(r110 != 0)) (gy_f rfl) (fun hg => x_cmp (kd := .i64) (a := r017) (b := (times : Int)) (r := decide ((times : Int) <= r017)) (gd_of (c := !(r110 != 0)) hg (I r017)) (gd_of (c := !(r110 != 0)) hg (I (times : Int))) rfl) ?_
   refine s_val (x_por (b := r110 != 0) (r := decide ((times : Int) <= r017)) rfl rfl (fun hb => gd_of (c := !(r110 != 0)) (by first | exact hb | (rw [hb]; rfl) | simp_all) (B (decide ((times : Int) <= r017))))) ?_
   refine s_nil ?_
   refine W.cond ((r110 != 0) || (decide ((times : Int) <= r017))) rfl (fun c280z => ?_) (fun c280z => ?_)
   ·replace hM := M.e_t hM c280z
    refine W.seq ?_
    refine W.region rfl ?_
    refine s_val (x_as (v := B false) rfl) ?_
    refine s_nil ?_
    refine W.ret ?_
    have hX281z := M.e_inr hM hN246z
    subst hX281z
    replace hM := hk239z
    try dsimp only at hM
    have hr_ := M.e_pure hM
    exact ⟨_, resE_tmp rfl, ⟨false, hr_, rfl, (H.pick [] (by decide) rfl)⟩⟩
   replace hM := M.e_f hM c280z
   refine W.skip ?_
   refine W.region rfl ?_
   refine s_val (x_mv (v := I (times : Int)) rfl) ?_
   obtain ⟨sd282z, hM⟩ := M.e_grd hM
   simp only [Bool.and_eq_true, decide_eq_true_eq] at sd282z
   refine s_val (x_ari (a := (times : Int)) (b := 1) (r := (times : Int) + 1) rfl rfl rfl (by omega)) ?_
   refine s_val (x_as (v := I ((times : Int) + 1)) rfl) ?_
   refine s_nil ?_
   exact ⟨m243z, lt244z, times + 1, _, upds_of _ _ ⟨rfl, rfl, rfl, rfl, trivial⟩, M.e_inl hM hN246z, (H.pick [4, 5, 6, 7, 8, 9, 10, 11, 12] (by decide) rfl)⟩
  replace hM := M.e_f hM c272z
  simp only [decide_eq_true_eq, decide_eq_false_iff_not, beq_iff_eq, bne_iff_ne, beq_eq_false_iff_ne, bne_eq_false_iff_eq, ne_eq, Decidable.not_not] at c272z
  refine W.skip ?_
  refine W.region rfl ?_
  refine s_val (x_mv (v := I (times : Int)) rfl) ?_
  obtain ⟨sd283z, hM⟩ := M.e_grd hM
  simp only [Bool.and_eq_true, decide_eq_true_eq] at sd283z
  refine s_val (x_ari (a := (times : Int)) (b := 1) (r := (times : Int) + 1) rfl rfl rfl (by omega)) ?_
  refine s_val (x_as (v := I ((times : Int) + 1)) rfl) ?_
  refine s_nil ?_
  exact ⟨m243z, lt244z, times + 1, _, upds_of _ _ ⟨rfl, rfl, rfl, rfl, trivial⟩, M.e_inl hM hN246z, (H.pick [3, 4, 5, 6, 7, 8, 9, 10, 11] (by decide) rfl)⟩
 replace hM := M.e_f hM c249z
 simp only [decide_eq_true_eq, decide_eq_false_iff_not, beq_iff_eq, bne_iff_ne, beq_eq_false_iff_ne, bne_eq_false_iff_eq, ne_eq, Decidable.not_not] at c249z
 refine W.exit ?_
 have hX284z := M.e_inr hM hN246z
 subst hX284z
 replace hM := hk239z
 try dsimp only at hM
 refine W.seq ?_
 refine W.region rfl ?_
 obtain ⟨r286z, hx285z, hM⟩ := M.e_bind hM
 refine s_call cf18 [] rfl (zbO hx285z _ (St.give (T := [cBlk b_11 [I r003, I r013] 35, cOwn (α := Bool) 4 v39z ([false, true]), cBlk b_8 [I r002, I r012] 35, cBlk b_7 [u0_2, u1_3, I r02, I r03] 26, cOwn (α := Yr) 41 u0_2 r00, cOwn (α := Raw 3) 43 u1_3 rr2_4, cRo Bs3_5, cOwn (α := Int) 3 u4_6 r12, cBlk nb0_1 [v_numbers, I q1, I q2] 101]) H rfl)) ?_
 rintro vq w287z ⟨r8, hr288z, hvq, H2_⟩
 subst hr288z
 subst vq
 try dsimp only at hM
 replace H : St w w287z [cBlk b_11 [I r003, I r013] 35, cOwn (α := Bool) 4 v39z ([false, true]), cBlk b_8 [I r002, I r012] 35, cBlk b_7 [u0_2, u1_3, I r02, I r03] 26, cOwn (α := Yr) 41 u0_2 r00, cOwn (α := Raw 3) 43 u1_3 rr2_4, cRo Bs3_5, cOwn (α := Int) 3 u4_6 r12, cBlk nb0_1 [v_numbers, I q1, I q2] 101] R := H.back H2_ rfl
 clear H2_
 refine s_val (x_as (v := B r8) rfl) ?_
 refine s_nil ?_
 refine W.ret ?_
 have hr_ := M.e_pure hM
 exact ⟨_, resE_tmp rfl, ⟨r8, hr_, rfl, (H.pick [] (by decide) rfl)⟩⟩

end Go.Proofs.Ytcgalcbkkijkhaa
end
namespace Go.Nm
namespace Bk
/-- A truth of extremes. -/
theorem Tr.ofs {ys : List Yr} {os : List Old10} {f l : Int} {t : List Int} (h : Tr ys os f l t) (most : Bool) : Tr ys os f l ((kl ys os f (Int.toNat (l + 1 - f))).map (ofs most)) := by
  have hfl := h.ok.fl
  have hlen : ((kl ys os f (Int.toNat (l + 1 - f))).map (Bk.ofs most)).length = Int.toNat (l + 1 - f) := by rw [List.length_map, kl_len]
  have hget : ∀ i, i < Int.toNat (l + 1 - f) -> ((kl ys os f (Int.toNat (l + 1 - f))).map (Bk.ofs most)).getD i 0 = Bk.ofs most (kn ys os (f + i)) := by
    intro i hi
    rw [List.getD_eq_getElem?_getD, List.getElem?_map, kl_at ys os f hi]
    rfl
  refine ⟨h.ok, by rw [hlen]; omega, fun i hi => ?_, fun i hi => ?_⟩
  · rw [hlen] at hi
    rw [hget i hi]
    have := kn_in h.ok.y h.ok.o (f + i)
    unfold Bk.ofs
    split <;> omega
  · rw [hlen] at hi
    rw [hget i hi]
    have := h.fine (f + i) (by omega) (by omega)
    unfold Bk.ofs
    split <;> omega
theorem vl_ofs {ys : List Yr} {os : List Old10} {f l fr to : Int} (hI : In f l fr to) (most : Bool) : vl ((kl ys os f (Int.toNat (l + 1 - f))).map (ofs most)) f fr (Int.toNat (to + 1 - fr)) = (kl ys os fr (Int.toNat (to + 1 - fr))).map (ofs most) := by
  obtain ⟨i1, i2, i3⟩ := hI
  unfold vl
  have e : (kl ys os fr (Int.toNat (to + 1 - fr))).map (ofs most) = (List.range (Int.toNat (to + 1 - fr))).map fun (i : Nat) => ofs most (kn ys os (fr + (i : Int))) := by
    unfold kl
    rw [List.map_map]
    rfl
  rw [e]
  refine List.map_congr_left fun i hi => ?_
  have hi := List.mem_range.1 hi
  rw [List.getD_eq_getElem?_getD, List.getElem?_map, kl_at ys os f (i := Int.toNat (fr + i - f)) (by omega)]
  show ofs most (kn ys os (f + ((Int.toNat (fr + i - f) : Nat) : Int))) = _
  rw [show f + ((Int.toNat (fr + (i : Int) - f) : Nat) : Int) = fr + i by omega]
theorem many_mono {p q : Span -> Bool} (h : ∀ s, q s = true -> p s = true) (ys : List Yr) (os : List Old10) (fr to : Int) : many q ys os fr to <= many p ys os fr to := by
  unfold many
  have := List.countP_mono_left (p := q) (q := p) (l := kl ys os fr (Int.toNat (to + 1 - fr))) (fun s _ hs => h s hs)
  omega
theorem many_nn (p : Span -> Bool) (ys : List Yr) (os : List Old10) (fr to : Int) : 0 <= many p ys os fr to := Int.natCast_nonneg _
end Bk
end Go.Nm
namespace Go.Proofs.Ytcgalcbkkijkhaa
open Go Go.Nm
variable {ys : List Yr} {os : List Old10} {f l : Int} {t : List Int}
theorem reached_both {r3 r4 r5 : Int} (h : Bk.Tr ys os f l t) (h3 : 0 <= r3) (h4 : 0 <= r4) (hl : f + r3 + r4 <= l) (h5 : 0 <= r5 /\ r5 <= 2000) :
    (M.iter (zau ys os f l t r3 r4 r5 (Bk.many (Bk.lop r5) ys os (f + r3) (f + r3 + r4)) (Bk.many (Bk.hip r5) ys os (f + r3) (f + r3 + r4))) 0).Ends (.inr ()) := by
  refine M.Out.ends ?_
  have hI : Bk.In f l (f + r3) (f + r3 + r4) := ⟨by omega, by omega, by omega⟩
  have hlen := h.len
  have hf0 := h.ok.f0
  have hl3 := h.ok.l3
  have hfl := h.ok.fl
  have one : ∀ (most : Bool) (s : Nat), s < 2 -> ([false, true]).getD s false = most -> (zau ys os f l t r3 r4 r5 (Bk.many (Bk.lop r5) ys os (f + r3) (f + r3 + r4)) (Bk.many (Bk.hip r5) ys os (f + r3) (f + r3 + r4)) s).Ends (.inl (s + 1)) := by
    intro most s hs he
    refine M.Out.ends ?_
    simp only [zau]
    rw [he]
    have hT := h.ofs most
    have hl2 := hT.len
    refine M.o_t (decide_eq_true (by simp only [List.length_cons, List.length_nil]; omega)) (M.o_grdD (by simp only [List.length_cons, List.length_nil]; omega) (M.o_bindE (tr_told h hI h5 most) ?_))
    dsimp only
    have z1 : (((Bk.kl ys os f (Int.toNat (l + 1 - f))).map (Bk.ofs most)).length : Int) = (t.length : Int) := by rw [hlen, hl2]
    have z2 : (Bk.ct ((Bk.kl ys os f (Int.toNat (l + 1 - f))).map (Bk.ofs most)) f (f + r3) (Int.toNat (f + r3 + r4 + 1 - (f + r3))) r5 : Int) = if most = true then Bk.many (Bk.hip r5) ys os (f + r3) (f + r3 + r4) else Bk.many (Bk.lop r5) ys os (f + r3) (f + r3 + r4) := by
      unfold Bk.ct
      rw [Bk.vl_ofs hI, Bk.many_lo, Bk.many_hi]
      cases most <;> rfl
    refine M.o_f (by rw [z1]; simp) (M.o_bindE (tr_holds hT) ?_)
    dsimp only
    refine M.o_bindE (counted_ends (l := l) ys os r5 (by omega) (by omega) hl hf0 hl3 hl2) ?_
    rw [z2]
    refine M.o_f ?_ ?_
    · cases most <;> simp
    · exact M.o_grd (gA2 (by omega) (by omega)) (M.o_pure rfl)
  refine M.o_for 2 (fun i (s : Nat) => s = i) ?_ ?_ rfl
  · rintro i s hi rfl
    refine M.o_of (one _ s hi rfl) rfl
  · rintro s rfl
    simp only [zau]
    exact M.o_f rfl (M.o_pure rfl)
theorem reached_times {r3 r4 : Int} (h : Bk.Tr ys os f l t) (h3 : 0 <= r3) (h4 : 0 <= r4) (hl : f + r3 + r4 <= l) : (M.iter (zai ys os f l r3 r4) 1).Ends (.inr ()) := by
  refine M.Out.ends ?_
  have hI : Bk.In f l (f + r3) (f + r3 + r4) := ⟨by omega, by omega, by omega⟩
  have hf0 := h.ok.f0
  have hl3 := h.ok.l3
  refine M.o_iter (fun m (k : Nat) => 1 <= k /\ m = Int.toNat (r4 + 2 - k)) ?_ (Int.toNat (r4 + 1)) _ ⟨Nat.le_refl _, by simp; omega⟩
  rintro m k ⟨hk, rfl⟩
  simp only [zai]
  refine M.o_grd (gA2 (by omega) (by omega)) (M.o_grd (gA2 (by omega) (by omega)) (M.o_if (fun hb => ?_) (fun hb => M.o_pure rfl)))
  have hb := of_decide_eq_true hb
  obtain ⟨u, v, g, tu, tv⟩ := tr_reaches h hI (n := k) (by omega)
  have huv := Bk.Top.le (h.fine.lo_hi hI) tu tv
  obtain ⟨u1, u2, u3, u4⟩ := tu
  obtain ⟨v1, v2, v3, v4⟩ := tv
  refine M.o_bindE g ?_
  dsimp only
  refine M.o_f (by rw [decide_eq_false (by omega)]; rfl) (M.o_bindE (tr_passed h hI ⟨u1, u2⟩) (M.o_bindE (tr_passed h hI ⟨v1, v2⟩) ?_))
  dsimp only
  refine M.o_f ?_ (M.o_if (fun hc => ?_) (fun hc => ?_))
  · have w1 := Bk.many_lo ys os (f + r3) (f + r3 + r4) u
    have w2 := Bk.many_hi ys os (f + r3) (f + r3 + r4) v
    rw [decide_eq_false (by omega), decide_eq_false (by omega)]
    rfl
  · have hc := of_decide_eq_true hc
    refine M.o_grd (gA2 (by omega) (by omega)) (M.o_bindE (tr_passed h hI (by omega)) ?_)
    dsimp only
    refine M.o_f ?_ (M.o_grd (gA2 (by omega) (by omega)) (M.o_pure ⟨Int.toNat (r4 + 2 - ((k + 1 : Nat) : Int)), by omega, by omega, rfl⟩))
    rw [Bk.many_hi, decide_eq_false (by omega)]
    rfl
  · exact M.o_grd (gA2 (by omega) (by omega)) (M.o_pure ⟨Int.toNat (r4 + 2 - ((k + 1 : Nat) : Int)), by omega, by omega, rfl⟩)
theorem zcy (p : List UInt8) (a b c d : Int) : (zbq p a b c d).Ends true := by
  refine M.Out.ends ?_
  unfold zbq
  have hnew : (zbz p).Ends (0, 0) := M.i_pure
  refine M.o_bindE hnew (M.o_bind (made_out SOk.zero (by omega) (by omega)) ?_)
  rintro ⟨ys, os, f, l, t, q1, q2⟩ ⟨hM, _⟩
  dsimp only at hM ⊢
  have h := hM.tr (by omega)
  have hlen := h.len
  have hf0 := hM.f0
  have hf2 := hM.f2
  have hfl := hM.fl
  have hnear := hM.near
  refine M.o_bind (pick_num (by omega)) fun r3 h3 => ?_
  refine M.o_grd (gA2 (by omega) (by omega)) (M.o_grd (gA2 (by omega) (by omega)) (M.o_grd (gA2 (by omega) (by omega)) (M.o_bind (pick_num (by omega)) fun r4 h4 => ?_)))
  refine M.o_grd (gA2 (by omega) (by omega)) (M.o_bind (pick_num (by omega)) fun r5 h5 => ?_)
  have hI : Bk.In f l (f + r3) (f + r3 + r4) := ⟨by omega, by omega, by omega⟩
  refine M.o_bindE (tr_passed h hI (by omega)) ?_
  dsimp only
  have n0 := Bk.many_nn (Bk.lop r5) ys os (f + r3) (f + r3 + r4)
  have n1 : Bk.many (Bk.lop r5) ys os (f + r3) (f + r3 + r4) <= Bk.many (Bk.hip r5) ys os (f + r3) (f + r3 + r4) := by
    have := h.fine.lo_hi hI r5
    rw [Bk.many_lo, Bk.many_hi]
    omega
  have n2 : Bk.many (Bk.hip r5) ys os (f + r3) (f + r3 + r4) <= r4 + 1 := by
    have := cnt_le (ys := ys) (os := os) (Bk.hip r5) (f + r3) (Int.toNat (f + r3 + r4 + 1 - (f + r3)))
    unfold Bk.many
    omega
  refine M.o_grd (gI2 fun _ => by omega) (M.o_grd (gI2 fun _ => by omega) (M.o_f ?_ ?_))
  · rw [decide_eq_false (by omega), decide_eq_false (by omega), decide_eq_false (by omega)]
    rfl
  refine M.o_bindE (reached_both h (by omega) (by omega) (by omega) (by omega)) (M.o_bind (pick_num (by omega)) fun r7 h7 => M.o_grd (gA2 (by omega) (by omega)) (M.o_bindE (tr_passed h hI (by omega)) ?_))
  dsimp only
  refine M.o_f ?_ (M.o_bindE (reached_times h (by omega) (by omega) (by omega)) (M.o_bindE awake_ends (M.o_pure rfl)))
  have m1 := Bk.many_mono (p := Bk.lop r5) (q := Bk.lop (min 2000 (r5 + r7))) (fun s hs => by have := of_decide_eq_true hs; exact decide_eq_true (by omega)) ys os (f + r3) (f + r3 + r4)
  have m2 := Bk.many_mono (p := Bk.hip r5) (q := Bk.hip (min 2000 (r5 + r7))) (fun s hs => by have := of_decide_eq_true hs; exact decide_eq_true (by omega)) ys os (f + r3) (f + r3 + r4)
  rw [decide_eq_false (by omega), decide_eq_false (by omega)]
  rfl
end Go.Proofs.Ytcgalcbkkijkhaa
