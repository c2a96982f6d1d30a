/- Part 4 of the texts on which the proof rests. Conditions: none. -/
import Derived.Test.YtclhljenjphofaaZW3
set_option linter.unusedVariables false
set_option linter.unusedSimpArgs false
set_option linter.unusedSectionVars false
section
set_option maxRecDepth 100000
set_option maxHeartbeats 16000000
namespace Go.Proofs.Ytclhljenjphofaa
open Go Go.Nm
def m_nilometerlaw01_Three (rise : Int) : M (Int × (List Line)) :=
  M.pure (3, ([(⟨(0 : Int), (1 : Int), (5 : Int), (100 : Int), (2 : Int)⟩ : Line), (⟨(1 : Int), (2 : Int), (5 : Int), (50 : Int), (1 : Int)⟩ : Line), (⟨(0 : Int), (2 : Int), (9 : Int), (rise : Int), (3 : Int)⟩ : Line)]))
theorem nilometerlaw01_Three_ok {R : List Chunk}  (rise : Int)  {r : (Int × (List Line))} (hM : (m_nilometerlaw01_Three rise).Ends r) (w : World) (H : St w w [] R) : Ret Try.prog 57 #[I rise] w fun v w' => ∃ (y0 : Int) (y1 : List Line) (u0 : Value), (y0, y1) = r /\ v = .agg #[I y0, u0] /\ St w w' [cOwn (α := Line) 34 u0 y1] R := by
 refine ret_of_W Try.func57 rfl rfl rfl ?_
 refine W.seq ?_
 refine W.region rfl ?_
 refine t_alloc (cs := [I 0, .slice none 0 0]) H Al25 rfl ?_
 intro b_1 w1z H
 refine s_nil ?_
 refine W.seq ?_
 refine W.region rfl ?_
 refine s_val (x_bld (ps := [(0, I 0), (1, I 1), (2, I 5), (3, I 100), (4, I 2)]) (zs := [I 0, I 0, I 0, I 0, I 0]) (L' := [I 0, I 1, I 5, I 100, I 2]) rfl Try.underlying34 Al34 rfl (Bd34 Try.underlying34) (.cons (cs := [I 0]) rfl rfl rfl rfl rfl <| .cons (cs := [I 1]) rfl rfl rfl rfl rfl <| .cons (cs := [I 5]) rfl rfl rfl rfl rfl <| .cons (cs := [I 100]) rfl rfl rfl rfl rfl <| .cons (cs := [I 2]) rfl rfl rfl rfl rfl <| .nil)) ?_
 refine s_val (x_bld (ps := [(0, I 1), (1, I 2), (2, I 5), (3, I 50), (4, I 1)]) (zs := [I 0, I 0, I 0, I 0, I 0]) (L' := [I 1, I 2, I 5, I 50, I 1]) rfl Try.underlying34 Al34 rfl (Bd34 Try.underlying34) (.cons (cs := [I 1]) rfl rfl rfl rfl rfl <| .cons (cs := [I 2]) rfl rfl rfl rfl rfl <| .cons (cs := [I 5]) rfl rfl rfl rfl rfl <| .cons (cs := [I 50]) rfl rfl rfl rfl rfl <| .cons (cs := [I 1]) rfl rfl rfl rfl rfl <| .nil)) ?_
 refine s_val (x_mv (v := I rise) rfl) ?_
 refine s_val (x_bld (ps := [(0, I 0), (1, I 2), (2, I 9), (3, I rise), (4, I 3)]) (zs := [I 0, I 0, I 0, I 0, I 0]) (L' := [I 0, I 2, I 9, I rise, I 3]) rfl Try.underlying34 Al34 rfl (Bd34 Try.underlying34) (.cons (cs := [I 0]) rfl rfl rfl rfl rfl <| .cons (cs := [I 2]) rfl rfl rfl rfl rfl <| .cons (cs := [I 9]) rfl rfl rfl rfl rfl <| .cons (cs := [I rise]) rfl rfl rfl rfl rfl <| .cons (cs := [I 3]) rfl rfl rfl rfl rfl <| .nil)) ?_
 refine t_bs (α := Line) T23 [.agg #[I 0, I 1, I 5, I 100, I 2], .agg #[I 1, I 2, I 5, I 50, I 1], .agg #[I 0, I 2, I 9, I rise, I 3]] [(⟨(0 : Int), (1 : Int), (5 : Int), (100 : Int), (2 : Int)⟩ : Line), (⟨(1 : Int), (2 : Int), (5 : Int), (50 : Int), (1 : Int)⟩ : Line), (⟨(0 : Int), (2 : Int), (9 : Int), (rise : Int), (3 : Int)⟩ : Line)] H rfl (.cons rfl (Flat.rep_enc _ (⟨(0 : Int), (1 : Int), (5 : Int), (100 : Int), (2 : Int)⟩ : Line)) <| .cons rfl (Flat.rep_enc _ (⟨(1 : Int), (2 : Int), (5 : Int), (50 : Int), (1 : Int)⟩ : Line)) <| .cons rfl (Flat.rep_enc _ (⟨(0 : Int), (2 : Int), (9 : Int), (rise : Int), (3 : Int)⟩ : Line)) <| .nil) rfl rfl rfl ?_
 intro v2z w3z H
 refine s_val (x_bld (ps := [(0, I 3), (1, v2z)]) (zs := [I 0, .slice none 0 0]) (L' := [I 3, v2z]) rfl Try.underlying25 Al25 rfl (Bd25 Try.underlying25) (.cons (cs := [I 3]) rfl rfl rfl rfl rfl <| .cons (cs := [v2z]) (Sl.cells (ownSl (H.get (k := 0) rfl))) rfl rfl rfl rfl <| .nil)) ?_
 refine t_st (k := 1) (b := b_1) (off := 0) (cs := [I 0, .slice none 0 0]) (vs := [I 3, v2z]) (cs' := [I 3, v2z]) (v := .agg #[I 3, v2z]) (L' := [cOwn (α := Line) 34 v2z ([(⟨(0 : Int), (1 : Int), (5 : Int), (100 : Int), (2 : Int)⟩ : Line), (⟨(1 : Int), (2 : Int), (5 : Int), (50 : Int), (1 : Int)⟩ : Line), (⟨(0 : Int), (2 : Int), (9 : Int), (rise : Int), (3 : Int)⟩ : Line)]), cBlk b_1 [I 3, v2z] 25]) H rfl rfl rfl Sz25 rfl rfl rfl (by simp only [List.all_cons, List.all_nil, Bool.true_and, Bool.and_true, Sl.oc (ownSl (H.get (k := 0) rfl))]; try rfl) rfl rfl ?_
 intro w4z H
 refine s_nil ?_
 refine W.ret ?_
 have hb5z := (H.blk (k := 1) rfl)
 have hr_ := M.e_pure hM
 exact ⟨_, (resE_of1 (v := .agg #[I 3, v2z]) rfl (.cell (v := .agg #[I 3, v2z]) rfl (run_loadVar_ag (ds := [I 3, v2z]) Ag25 Sz25 hb5z rfl rfl) <| .nil)), ⟨3, ([(⟨(0 : Int), (1 : Int), (5 : Int), (100 : Int), (2 : Int)⟩ : Line), (⟨(1 : Int), (2 : Int), (5 : Int), (50 : Int), (1 : Int)⟩ : Line), (⟨(0 : Int), (2 : Int), (9 : Int), (rise : Int), (3 : Int)⟩ : Line)]), v2z, hr_, rfl, (H.pick [0] (by decide) rfl)⟩⟩

def m_nilometerkit_Same_level_Move_b0 (a : List Mv) (b : List Mv) : Nat -> M (Nat ⊕ (Unit ⊕ Unit)) := fun i =>
  bif decide ((i : Int) < (a.length : Int)) then (
  M.grd (decide ((i : Int) < (a.length : Int))) <|
  M.grd (decide ((i : Int) < (b.length : Int))) <|
  bif !(decide ((a.getD i default) = (b.getD i default))) then (
  M.pure (.inr (.inl ())))
  else (
  M.pure (.inl (i + 1))))
  else (
  M.pure (.inr (.inr ())))
def m_nilometerkit_Same_level_Move (a : List Mv) (b : List Mv) : M Bool :=
  bif (a.length : Int) != (b.length : Int) then (
  M.pure false)
  else (
  M.bind (M.iter (m_nilometerkit_Same_level_Move_b0 a b) 0) fun x_ => match x_ with
  | (.inl (_ : Unit)) => (
  M.pure false)
  | (.inr (_ : Unit)) => (
  M.pure true))
theorem nilometerkit_Same_level_Move_ok {R : List Chunk} {C_a : Cells} {v_a : Value} {C_b : Cells} {v_b : Value} (a : List Mv) (b : List Mv) (hC_a : Reads R C_a) (hs_a : Sl C_a v_a a) (hC_b : Reads R C_b) (hs_b : Sl C_b v_b b) {r : Bool} (hM : (m_nilometerkit_Same_level_Move a b).Ends r) (w : World) (H : St w w [] R) : Ret Try.prog 58 #[v_a, v_b] w fun v w' => ∃ (y0 : Bool), y0 = r /\ v = B y0 /\ St w w' [] R := by
 refine ret_of_W Try.func58 rfl rfl rfl ?_
 refine W.seq ?_
 refine W.region rfl ?_
 refine s_val (x_as (v := B false) rfl) ?_
 refine s_nil ?_
 refine W.seq ?_
 refine W.seq ?_
 refine W.region rfl ?_
 refine s_val (x_mv (v := v_a) rfl) ?_
 have hl1z := (hs_a).len_le
 refine s_val (x_lenS T46.und rfl hs_a) ?_
 refine s_val (x_mv (v := v_b) rfl) ?_
 have hl2z := (hs_b).len_le
 refine s_val (x_lenS T46.und rfl hs_b) ?_
 refine s_val (x_cmp (kd := .i64) (a := (a.length : Int)) (b := (b.length : Int)) (r := (a.length : Int) != (b.length : Int)) rfl rfl rfl) ?_
 refine s_nil ?_
 refine W.cond ((a.length : Int) != (b.length : Int)) rfl (fun c3z => ?_) (fun c3z => ?_)
 ·replace hM := M.e_t hM c3z
  simp only [decide_eq_true_eq, decide_eq_false_iff_not, beq_iff_eq, bne_iff_ne, beq_eq_false_iff_ne, bne_eq_false_iff_eq, ne_eq, Decidable.not_not] at c3z
  refine W.seq ?_
  refine W.region rfl ?_
  refine s_val (x_as (v := B false) rfl) ?_
  refine s_nil ?_
  refine W.ret ?_
  have hr_ := M.e_pure hM
  exact ⟨_, resE_tmp rfl, ⟨false, hr_, rfl, H⟩⟩
 ·replace hM := M.e_f hM c3z
  simp only [decide_eq_true_eq, decide_eq_false_iff_not, beq_iff_eq, bne_iff_ne, beq_eq_false_iff_ne, bne_eq_false_iff_eq, ne_eq, Decidable.not_not] at c3z
  refine W.skip ?_
  refine W.seq ?_
  refine W.seq ?_
  refine W.region rfl ?_
  refine s_val (x_as (v := I 0) rfl) ?_
  refine s_nil ?_
  refine W.block ?_
  obtain ⟨ex4z, hi5z, hk6z⟩ := M.e_bind hM
  obtain ⟨m0_, hi5z⟩ := M.e_iter hi5z
  refine W.loop (fun m σ W => ∃ (i : Nat) (ρ : Env), σ = upds ρ [(0, v_a), (1, v_b), (5, I (i : Int))] /\ M.iterN (m_nilometerkit_Same_level_Move_b0 a b) m i = some ex4z /\ St w W [] R) ?_ ?_
  ·exact ⟨_, 0, _, upds_of _ _ ⟨rfl, rfl, rfl, trivial⟩, hi5z, H⟩
  ·rintro m9z σ w7z ⟨i, ρ, rfl, hI8z, H⟩
   obtain ⟨m10z, lt11z, x12z, hM, hN13z⟩ := M.e_iterN hI8z
   simp only [m_nilometerkit_Same_level_Move_b0] at hM
   clear hI8z
   refine W.seq ?_
   refine W.seq ?_
   refine W.region rfl ?_
   refine s_val (x_mv (v := I (i : Int)) rfl) ?_
   refine s_val (x_mv (v := v_a) rfl) ?_
   have hl14z := (hs_a).len_le
   refine s_val (x_lenS T46.und rfl hs_a) ?_
   refine s_val (x_cmp (kd := .i64) (a := (i : Int)) (b := (a.length : Int)) (r := decide ((i : Int) < (a.length : Int))) rfl rfl rfl) ?_
   refine s_nil ?_
   refine W.cond (decide ((i : Int) < (a.length : Int))) rfl (fun c15z => ?_) (fun c15z => ?_)
   ·replace hM := M.e_t hM c15z
    simp only [decide_eq_true_eq, decide_eq_false_iff_not, beq_iff_eq, bne_iff_ne, beq_eq_false_iff_ne, bne_eq_false_iff_eq, ne_eq, Decidable.not_not] at c15z
    refine W.skip ?_
    refine W.seq ?_
    refine W.block ?_
    refine W.seq ?_
    refine W.draw (fun W => St w W [] R) [(0, true), (1, true), (2, true), (3, true), (4, true), (5, true), (6, true), (7, true), (8, true)] mixed (by decide +kernel) rfl ?_
    intro w16z hx_
    replace H : St w w16z [] R := H.ext hx_
    clear hx_
    refine ⟨(H.pick [] (by decide) rfl), ?_⟩
    refine d_q rfl (fun w' H => x_mv (v := v_a) rfl) ?_
    refine d_q rfl (fun w' H => x_mv (v := I (i : Int)) rfl) ?_
    obtain ⟨sd17z, hM⟩ := M.e_grd hM
    simp only [Bool.and_eq_true, decide_eq_true_eq] at sd17z
    refine d_q rfl (fun w' H => x_ix (a := v_a) (b := I (i : Int)) (v := vat v_a 2 (Int.toNat (i : Int))) rfl rfl (Sl.ix (α := Mv) T46.und T46.size hs_a (by omega) (by omega))) ?_
    refine d_q rfl (fun w' H => x_ld (p := vat v_a 2 (Int.toNat (i : Int))) (v := .agg #[I ((a.getD i default).mark), I ((a.getD i default).day)]) rfl (ld_ag Ag50 Sz50 (At.mono (Mv_atA hs_a (i := (i : Int)) (by omega) (by omega)) (hC_a.at H)))) ?_
    refine d_q rfl (fun w' H => x_mv (v := v_b) rfl) ?_
    refine d_q rfl (fun w' H => x_mv (v := I (i : Int)) rfl) ?_
    obtain ⟨sd18z, hM⟩ := M.e_grd hM
    simp only [Bool.and_eq_true, decide_eq_true_eq] at sd18z
    refine d_q rfl (fun w' H => x_ix (a := v_b) (b := I (i : Int)) (v := vat v_b 2 (Int.toNat (i : Int))) rfl rfl (Sl.ix (α := Mv) T46.und T46.size hs_b (by omega) (by omega))) ?_
    refine d_q rfl (fun w' H => x_ld (p := vat v_b 2 (Int.toNat (i : Int))) (v := .agg #[I ((b.getD i default).mark), I ((b.getD i default).day)]) rfl (ld_ag Ag50 Sz50 (At.mono (Mv_atA hs_b (i := (i : Int)) (by omega) (by omega)) (hC_b.at H)))) ?_
    refine d_q rfl (fun w' H => x_neS (eqT50 (a.getD i default) (b.getD i default) _) gdT50 rfl rfl) ?_
    refine d_nil ?_
    refine W.cond (!(decide ((a.getD i default) = (b.getD i default)))) rfl (fun c19z => ?_) (fun c19z => ?_)
    ·replace hM := M.e_t hM c19z
     refine W.seq ?_
     refine W.region rfl ?_
     refine s_val (x_as (v := B false) rfl) ?_
     refine s_nil ?_
     refine W.ret ?_
     have hX20z := M.e_inr hM hN13z
     subst hX20z
     replace hM := hk6z
     try dsimp only at hM
     have hr_ := M.e_pure hM
     exact ⟨_, resE_tmp rfl, ⟨false, hr_, rfl, H⟩⟩
    ·replace hM := M.e_f hM c19z
     refine W.skip ?_
     refine W.region rfl ?_
     refine s_val (x_mv (v := I (i : Int)) rfl) ?_
     refine s_val (x_ari (a := (i : Int)) (b := 1) (r := (i : Int) + 1) rfl rfl rfl (by omega)) ?_
     refine s_val (x_as (v := I ((i : Int) + 1)) rfl) ?_
     refine s_nil ?_
     exact ⟨m10z, lt11z, i + 1, _, upds_of _ _ ⟨rfl, rfl, rfl, trivial⟩, M.e_inl hM hN13z, H⟩
   ·replace hM := M.e_f hM c15z
    simp only [decide_eq_true_eq, decide_eq_false_iff_not, beq_iff_eq, bne_iff_ne, beq_eq_false_iff_ne, bne_eq_false_iff_eq, ne_eq, Decidable.not_not] at c15z
    refine W.exit ?_
    have hX21z := M.e_inr hM hN13z
    subst hX21z
    replace hM := hk6z
    try dsimp only at hM
    refine W.seq ?_
    refine W.region rfl ?_
    refine s_val (x_as (v := B true) rfl) ?_
    refine s_nil ?_
    refine W.ret ?_
    have hr_ := M.e_pure hM
    exact ⟨_, resE_tmp rfl, ⟨true, hr_, rfl, H⟩⟩

def m_nilometerlaw01_awake : M Bool :=
  M.bind (m_nilometerlaw01_Three 148) fun (r0, r1) =>
  M.bind (m_level_Between r0 r1 0 2) fun (r00, r01, r12) =>
  M.bind (m_nilometerlaw01_Three 148) fun (r02, r13) =>
  M.bind (m_level_Between r02 r13 0 1) fun (r002, r012, r14) =>
  M.bind (m_nilometerlaw01_Three 148) fun (r03, r15) =>
  M.bind (m_level_Rises r03 r15 ([(⟨(1 : Int), true⟩ : Leg), (⟨(0 : Int), true⟩ : Leg)])) fun (r04, r16, r2, r3) =>
  M.bind (m_nilometerlaw01_Three 160) fun (r05, r17) =>
  M.bind (m_level_Agrees r05 r17) fun (r06, r18) =>
  bif ((((((((r12 != 0) || (r14 != 0)) || (r3 != 0)) || (r18 != 0)) || (!(decide ((⟨(r00 : Int), (r01 : Int)⟩ : Span) = (⟨(147 : Int), (151 : Int)⟩ : Span))))) || (!(decide ((⟨(r002 : Int), (r012 : Int)⟩ : Span) = (⟨(98 : Int), (102 : Int)⟩ : Span))))) || (r2 != (-147))) || r06) then (
  M.pure false)
  else (
  M.bind (m_nilometerlaw01_Three 160) fun (r07, r19) =>
  M.bind (m_level_Rises r07 r19 ([(⟨(0 : Int), false⟩ : Leg), (⟨(1 : Int), false⟩ : Leg), (⟨(2 : Int), true⟩ : Leg)])) fun (r08, r110, r22, r32) =>
  M.bind (m_nilometerlaw01_Three 160) fun (r09, r111) =>
  M.bind (m_level_Moves r09 r111) fun (r010, r112) =>
  M.bind (m_nilometerlaw01_Three 160) fun (r011, r113) =>
  M.bind (m_level_Convict r011 r113) fun (r013, r114) =>
  M.bind (m_nilometerlaw01_Three 160) fun (r014, r115) =>
  M.grd (decide ((r115.length + ([(⟨(2 : Int), (1 : Int), (9 : Int), (-50 : Int), (1 : Int)⟩ : Line)]).length) * 40 <= 140737488355328)) <|
  M.bind (m_level_Convict r014 (r115 ++ ([(⟨(2 : Int), (1 : Int), (9 : Int), (-50 : Int), (1 : Int)⟩ : Line)]))) fun (r015, r116) =>
  M.bind (M.opt (((((((r32 == 0) && (r112 == 0)) && (r114 == 11)) && (r116 == 0)) && (r08 == 0)) && (r110 == 0)) && (r22 == (-4))) (m_nilometerkit_Same_level_Move r010 ([(⟨(0 : Int), (6 : Int)⟩ : Mv), (⟨(2 : Int), (6 : Int)⟩ : Mv)])) false) fun r4 =>
  M.pure (((((((((r32 == 0) && (r112 == 0)) && (r114 == 11)) && (r116 == 0)) && (r08 == 0)) && (r110 == 0)) && (r22 == (-4))) && r4) && (r015 == 0)))
theorem nilometerlaw01_awake_ok {R : List Chunk}    {r : Bool} (hM : (m_nilometerlaw01_awake).Ends r) (w : World) (H : St w w [] R) : Ret Try.prog 18 #[] w fun v w' => ∃ (y0 : Bool), y0 = r /\ v = B y0 /\ St w w' [] R := by
 refine ret_of_W Try.func18 rfl rfl rfl ?_
 refine W.seq ?_
 refine W.region rfl ?_
 refine s_val (x_as (v := B false) rfl) ?_
 refine s_nil ?_
 refine W.seq ?_
 refine W.region rfl ?_
 obtain ⟨r2z, hx1z, hM⟩ := M.e_bind hM
 refine s_call cf57 [I 148] rfl (nilometerlaw01_Three_ok 148 hx1z _ (St.give (T := []) H rfl)) ?_
 rintro vq w3z ⟨r0, r1, u0_1, hr4z, hvq, H2_⟩
 subst hr4z
 subst vq
 try dsimp only at hM
 replace H : St w w3z [cOwn (α := Line) 34 u0_1 r1] R := H.back H2_ rfl
 clear H2_
 obtain ⟨r6z, hx5z, hM⟩ := M.e_bind hM
 refine s_call cf17 [.agg #[I r0, u0_1], I 0, I 2] rfl (level_Between_ok r0 r1 0 2 (Reads.of (k := 0) rfl ownLe) (ownSl (H.get (k := 0) rfl)) hx5z _ (St.give (T := [cOwn (α := Line) 34 u0_1 r1]) H rfl)) ?_
 rintro vq w7z ⟨r00, r01, r12, hr8z, hvq, H2_⟩
 subst hr8z
 subst vq
 try dsimp only at hM
 replace H : St w w7z [cOwn (α := Line) 34 u0_1 r1] R := H.back H2_ rfl
 clear H2_
 refine s_val (x_mv (v := .tuple #[.agg #[I r00, I r01], I r12]) rfl) ?_
 refine s_val (x_ext (vs := [.agg #[I r00, I r01], I r12]) (v := .agg #[I r00, I r01]) rfl rfl) ?_
 refine s_val (x_ext (vs := [.agg #[I r00, I r01], I r12]) (v := I r12) rfl rfl) ?_
 refine t_alloc (cs := [I 0, I 0]) H Al37 rfl ?_
 intro b_2 w9z H
 refine t_st (k := 0) (b := b_2) (off := 0) (cs := [I 0, I 0]) (vs := [I r00, I r01]) (cs' := [I r00, I r01]) (v := .agg #[I r00, I r01]) (L' := [cBlk b_2 [I r00, I r01] 37, cOwn (α := Line) 34 u0_1 r1]) H rfl rfl rfl Sz37 rfl rfl rfl rfl rfl rfl ?_
 intro w10z H
 refine s_val (x_as (v := I r12) rfl) ?_
 refine s_nil ?_
 refine W.seq ?_
 refine W.region rfl ?_
 obtain ⟨r12z, hx11z, hM⟩ := M.e_bind hM
 refine s_call cf57 [I 148] rfl (nilometerlaw01_Three_ok 148 hx11z _ (St.give (T := [cBlk b_2 [I r00, I r01] 37, cOwn (α := Line) 34 u0_1 r1]) H rfl)) ?_
 rintro vq w13z ⟨r02, r13, u0_3, hr14z, hvq, H2_⟩
 subst hr14z
 subst vq
 try dsimp only at hM
 replace H : St w w13z [cOwn (α := Line) 34 u0_3 r13, cBlk b_2 [I r00, I r01] 37, cOwn (α := Line) 34 u0_1 r1] R := H.back H2_ rfl
 clear H2_
 obtain ⟨r16z, hx15z, hM⟩ := M.e_bind hM
 refine s_call cf17 [.agg #[I r02, u0_3], I 0, I 1] rfl (level_Between_ok r02 r13 0 1 (Reads.of (k := 0) rfl ownLe) (ownSl (H.get (k := 0) rfl)) hx15z _ (St.give (T := [cOwn (α := Line) 34 u0_3 r13, cBlk b_2 [I r00, I r01] 37, cOwn (α := Line) 34 u0_1 r1]) H rfl)) ?_
 rintro vq w17z ⟨r002, r012, r14, hr18z, hvq, H2_⟩
 subst hr18z
 subst vq
 try dsimp only at hM
 replace H : St w w17z [cOwn (α := Line) 34 u0_3 r13, cBlk b_2 [I r00, I r01] 37, cOwn (α := Line) 34 u0_1 r1] R := H.back H2_ rfl
 clear H2_
 refine s_val (x_mv (v := .tuple #[.agg #[I r002, I r012], I r14]) rfl) ?_
 refine s_val (x_ext (vs := [.agg #[I r002, I r012], I r14]) (v := .agg #[I r002, I r012]) rfl rfl) ?_
 refine s_val (x_ext (vs := [.agg #[I r002, I r012], I r14]) (v := I r14) rfl rfl) ?_
 refine t_alloc (cs := [I 0, I 0]) H Al37 rfl ?_
 intro b_4 w19z H
 refine t_st (k := 0) (b := b_4) (off := 0) (cs := [I 0, I 0]) (vs := [I r002, I r012]) (cs' := [I r002, I r012]) (v := .agg #[I r002, I r012]) (L' := [cBlk b_4 [I r002, I r012] 37, cOwn (α := Line) 34 u0_3 r13, cBlk b_2 [I r00, I r01] 37, cOwn (α := Line) 34 u0_1 r1]) H rfl rfl rfl Sz37 rfl rfl rfl rfl rfl rfl ?_
 intro w20z H
 refine s_val (x_as (v := I r14) rfl) ?_
 refine s_nil ?_
 refine W.seq ?_
 refine W.region rfl ?_
 obtain ⟨r22z, hx21z, hM⟩ := M.e_bind hM
 refine s_call cf57 [I 148] rfl (nilometerlaw01_Three_ok 148 hx21z _ (St.give (T := [cBlk b_4 [I r002, I r012] 37, cOwn (α := Line) 34 u0_3 r13, cBlk b_2 [I r00, I r01] 37, cOwn (α := Line) 34 u0_1 r1]) H rfl)) ?_
 rintro vq w23z ⟨r03, r15, u0_5, hr24z, hvq, H2_⟩
 subst hr24z
 subst vq
 try dsimp only at hM
 replace H : St w w23z [cOwn (α := Line) 34 u0_5 r15, cBlk b_4 [I r002, I r012] 37, cOwn (α := Line) 34 u0_3 r13, cBlk b_2 [I r00, I r01] 37, cOwn (α := Line) 34 u0_1 r1] R := H.back H2_ rfl
 clear H2_
 refine s_val (x_bld (ps := [(0, I 1), (1, B true)]) (zs := [I 0, B false]) (L' := [I 1, B true]) rfl Try.underlying91 Al91 rfl (Bd91 Try.underlying91) (.cons (cs := [I 1]) rfl rfl rfl rfl rfl <| .cons (cs := [B true]) rfl rfl rfl rfl rfl <| .nil)) ?_
 refine s_val (x_bld (ps := [(0, I 0), (1, B true)]) (zs := [I 0, B false]) (L' := [I 0, B true]) rfl Try.underlying91 Al91 rfl (Bd91 Try.underlying91) (.cons (cs := [I 0]) rfl rfl rfl rfl rfl <| .cons (cs := [B true]) rfl rfl rfl rfl rfl <| .nil)) ?_
 refine t_bs (α := Leg) T88 [.agg #[I 1, B true], .agg #[I 0, B true]] [(⟨(1 : Int), true⟩ : Leg), (⟨(0 : Int), true⟩ : Leg)] H rfl (.cons rfl (Flat.rep_enc _ (⟨(1 : Int), true⟩ : Leg)) <| .cons rfl (Flat.rep_enc _ (⟨(0 : Int), true⟩ : Leg)) <| .nil) rfl rfl rfl ?_
 intro v25z w26z H
 obtain ⟨r28z, hx27z, hM⟩ := M.e_bind hM
 refine s_call cf45 [.agg #[I r03, u0_5], v25z] rfl (level_Rises_ok r03 r15 ([(⟨(1 : Int), true⟩ : Leg), (⟨(0 : Int), true⟩ : Leg)]) (Reads.of (k := 1) rfl ownLe) (ownSl (H.get (k := 1) rfl)) (Reads.of (k := 0) rfl ownLe) (ownSl (H.get (k := 0) rfl)) hx27z _ (St.give (T := [cOwn (α := Leg) 91 v25z ([(⟨(1 : Int), true⟩ : Leg), (⟨(0 : Int), true⟩ : Leg)]), cOwn (α := Line) 34 u0_5 r15, cBlk b_4 [I r002, I r012] 37, cOwn (α := Line) 34 u0_3 r13, cBlk b_2 [I r00, I r01] 37, cOwn (α := Line) 34 u0_1 r1]) H rfl)) ?_
 rintro vq w29z ⟨r04, r16, r2, r3, hr30z, hvq, H2_⟩
 subst hr30z
 subst vq
 try dsimp only at hM
 replace H : St w w29z [cOwn (α := Leg) 91 v25z ([(⟨(1 : Int), true⟩ : Leg), (⟨(0 : Int), true⟩ : Leg)]), cOwn (α := Line) 34 u0_5 r15, cBlk b_4 [I r002, I r012] 37, cOwn (α := Line) 34 u0_3 r13, cBlk b_2 [I r00, I r01] 37, cOwn (α := Line) 34 u0_1 r1] R := H.back H2_ rfl
 clear H2_
 refine s_val (x_mv (v := .tuple #[I r04, I r16, I r2, I r3]) rfl) ?_
 refine s_val (x_ext (vs := [I r04, I r16, I r2, I r3]) (v := I r04) rfl rfl) ?_
 refine s_val (x_ext (vs := [I r04, I r16, I r2, I r3]) (v := I r16) rfl rfl) ?_
 refine s_val (x_ext (vs := [I r04, I r16, I r2, I r3]) (v := I r2) rfl rfl) ?_
 refine s_val (x_ext (vs := [I r04, I r16, I r2, I r3]) (v := I r3) rfl rfl) ?_
 refine s_val (x_as (v := I r04) rfl) ?_
 refine s_val (x_as (v := I r16) rfl) ?_
 refine s_val (x_as (v := I r2) rfl) ?_
 refine s_val (x_as (v := I r3) rfl) ?_
 refine s_nil ?_
 refine W.seq ?_
 refine W.region rfl ?_
 obtain ⟨r32z, hx31z, hM⟩ := M.e_bind hM
 refine s_call cf57 [I 160] rfl (nilometerlaw01_Three_ok 160 hx31z _ (St.give (T := [cOwn (α := Leg) 91 v25z ([(⟨(1 : Int), true⟩ : Leg), (⟨(0 : Int), true⟩ : Leg)]), cOwn (α := Line) 34 u0_5 r15, cBlk b_4 [I r002, I r012] 37, cOwn (α := Line) 34 u0_3 r13, cBlk b_2 [I r00, I r01] 37, cOwn (α := Line) 34 u0_1 r1]) H rfl)) ?_
 rintro vq w33z ⟨r05, r17, u0_7, hr34z, hvq, H2_⟩
 subst hr34z
 subst vq
 try dsimp only at hM
 replace H : St w w33z [cOwn (α := Line) 34 u0_7 r17, cOwn (α := Leg) 91 v25z ([(⟨(1 : Int), true⟩ : Leg), (⟨(0 : Int), true⟩ : Leg)]), cOwn (α := Line) 34 u0_5 r15, cBlk b_4 [I r002, I r012] 37, cOwn (α := Line) 34 u0_3 r13, cBlk b_2 [I r00, I r01] 37, cOwn (α := Line) 34 u0_1 r1] R := H.back H2_ rfl
 clear H2_
 obtain ⟨r36z, hx35z, hM⟩ := M.e_bind hM
 refine s_call cf23 [.agg #[I r05, u0_7]] rfl (level_Agrees_ok r05 r17 (Reads.of (k := 0) rfl ownLe) (ownSl (H.get (k := 0) rfl)) hx35z _ (St.give (T := [cOwn (α := Line) 34 u0_7 r17, cOwn (α := Leg) 91 v25z ([(⟨(1 : Int), true⟩ : Leg), (⟨(0 : Int), true⟩ : Leg)]), cOwn (α := Line) 34 u0_5 r15, cBlk b_4 [I r002, I r012] 37, cOwn (α := Line) 34 u0_3 r13, cBlk b_2 [I r00, I r01] 37, cOwn (α := Line) 34 u0_1 r1]) H rfl)) ?_
 rintro vq w37z ⟨r06, r18, hr38z, hvq, H2_⟩
 subst hr38z
 subst vq
 try dsimp only at hM
 replace H : St w w37z [cOwn (α := Line) 34 u0_7 r17, cOwn (α := Leg) 91 v25z ([(⟨(1 : Int), true⟩ : Leg), (⟨(0 : Int), true⟩ : Leg)]), cOwn (α := Line) 34 u0_5 r15, cBlk b_4 [I r002, I r012] 37, cOwn (α := Line) 34 u0_3 r13, cBlk b_2 [I r00, I r01] 37, cOwn (α := Line) 34 u0_1 r1] R := H.back H2_ rfl
 clear H2_
 refine s_val (x_mv (v := .tuple #[B r06, I r18]) rfl) ?_
 refine s_val (x_ext (vs := [B r06, I r18]) (v := B r06) rfl rfl) ?_
 refine s_val (x_ext (vs := [B r06, I r18]) (v := I r18) rfl rfl) ?_
 refine s_val (x_as (v := B r06) rfl) ?_
 refine s_val (x_as (v := I r18) rfl) ?_
 refine s_nil ?_
 refine W.seq ?_
 refine W.seq ?_
 refine W.region rfl ?_
 refine s_val (x_mv (v := I r12) rfl) ?_
 refine s_val (x_cmp (kd := .i64) (a := r12) (b := 0) (r := r12 != 0) rfl rfl rfl) ?_
 refine s_val (x_mv (v := B (r12 != 0)) rfl) ?_
 refine g_val (!(r12 != 0)) (gy_f rfl) (fun hg => x_mv (v := I r14) rfl) ?_
 refine g_val (!(r12 != 0)) (gy_f rfl) (fun hg => x_cmp (kd := .i64) (a := r14) (b := 0) (r := r14 != 0) (gd_of (c := !(r12 != 0)) hg (I r14)) rfl rfl) ?_
 refine s_val (x_por (b := r12 != 0) (r := r14 != 0) rfl rfl (fun hb => gd_of (c := !(r12 != 0)) (by first | exact hb | (rw [hb]; rfl) | simp_all) (B (r14 != 0)))) ?_
 refine s_val (x_mv (v := B ((r12 != 0) || (r14 != 0))) rfl) ?_
 refine g_val (!((r12 != 0) || (r14 != 0))) (gy_f rfl) (fun hg => x_mv (v := I r3) rfl) ?_
 refine g_val (!((r12 != 0) || (r14 != 0))) (gy_f rfl) (fun hg => x_cmp (kd := .i64) (a := r3) (b := 0) (r := r3 != 0) (gd_of (c := !((r12 != 0) || (r14 != 0))) hg (I r3)) rfl rfl) ?_
 refine s_val (x_por (b := ((r12 != 0) || (r14 != 0))) (r := r3 != 0) rfl rfl (fun hb => gd_of (c := !((r12 != 0) || (r14 != 0))) (by first | exact hb | (rw [hb]; rfl) | simp_all) (B (r3 != 0)))) ?_
 refine s_val (x_mv (v := B (((r12 != 0) || (r14 != 0)) || (r3 != 0))) rfl) ?_
 refine g_val (!(((r12 != 0) || (r14 != 0)) || (r3 != 0))) (gy_f rfl) (fun hg => x_mv (v := I r18) rfl) ?_
 refine g_val (!(((r12 != 0) || (r14 != 0)) || (r3 != 0))) (gy_f rfl) (fun hg => x_cmp (kd := .i64) (a := r18) (b := 0) (r := r18 != 0) (gd_of (c := !(((r12 != 0) || (r14 != 0)) || (r3 != 0))) hg (I r18)) rfl rfl) ?_
 refine s_val (x_por (b := (((r12 != 0) || (r14 != 0)) || (r3 != 0))) (r := r18 != 0) rfl rfl (fun hb => gd_of (c := !(((r12 != 0) || (r14 != 0)) || (r3 != 0))) (by first | exact hb | (rw [hb]; rfl) | simp_all) (B (r18 != 0)))) ?_
 refine s_val (x_mv (v := B ((((r12 != 0) || (r14 != 0)) || (r3 != 0)) || (r18 != 0))) rfl) ?_
 refine g_val (!((((r12 != 0) || (r14 != 0)) || (r3 != 0)) || (r18 != 0))) (gy_f rfl) (fun hg => x_ld (p := .pointer (some ⟨b_2, 0, none⟩)) (v := .agg #[I r00, I r01]) rfl (ldb_ag (ds := [I r00, I r01]) Ag37 Sz37 (H.blk (k := 5) rfl) rfl rfl)) ?_
 refine g_val (!((((r12 != 0) || (r14 != 0)) || (r3 != 0)) || (r18 != 0))) (gy_f rfl) (fun hg => x_bld (ps := [(0, I 147), (1, I 151)]) (zs := [I 0, I 0]) (L' := [I 147, I 151]) rfl Try.underlying37 Al37 rfl (Bd37 Try.underlying37) (.cons (cs := [I 147]) rfl rfl rfl rfl rfl <| .cons (cs := [I 151]) rfl rfl rfl rfl rfl <| .nil)) ?_
 refine g_val (!((((r12 != 0) || (r14 != 0)) || (r3 != 0)) || (r18 != 0))) (gy_f rfl) (fun hg => x_neS (eqT37 (⟨(r00 : Int), (r01 : Int)⟩ : Span) (⟨(147 : Int), (151 : Int)⟩ : Span) _) gdT37 (gd_of (c := !((((r12 != 0) || (r14 != 0)) || (r3 != 0)) || (r18 != 0))) hg (.agg #[I r00, I r01])) (gd_of (c := !((((r12 != 0) || (r14 != 0)) || (r3 != 0)) || (r18 != 0))) hg (.agg #[I 147, I 151]))) ?_
 refine s_val (x_por (b := ((((r12 != 0) || (r14 != 0)) || (r3 != 0)) || (r18 != 0))) (r := !(decide ((⟨(r00 : Int), (r01 : Int)⟩ : Span) = (⟨(147 : Int), (151 : Int)⟩ : Span)))) rfl rfl (fun hb => gd_of (c := !((((r12 != 0) || (r14 != 0)) || (r3 != 0)) || (r18 != 0))) (by first | exact hb | (rw [hb]; rfl) | simp_all) (B (!(decide ((⟨(r00 : Int), (r01 : Int)⟩ : Span) = (⟨(147 : Int), (151 : Int)⟩ : Span))))))) ?_
 refine s_val (x_mv (v := B (((((r12 != 0) || (r14 != 0)) || (r3 != 0)) || (r18 != 0)) || (!(decide ((⟨(r00 : Int), (r01 : Int)⟩ : Span) = (⟨(147 : Int), (151 : Int)⟩ : Span)))))) rfl) ?_
 refine g_val (!(((((r12 != 0) || (r14 != 0)) || (r3 != 0)) || (r18 != 0)) || (!(decide ((⟨(r00 : Int), (r01 : Int)⟩ : Span) = (⟨(147 : Int), (151 : Int)⟩ : Span)))))) (gy_f rfl) (fun hg => x_ld (p := .pointer (some ⟨b_4, 0, none⟩)) (v := .agg #[I r002, I r012]) rfl (ldb_ag (ds := [I r002, I r012]) Ag37 Sz37 (H.blk (k := 3) rfl) rfl rfl)) ?_
 refine g_val (!(((((r12 != 0) || (r14 != 0)) || (r3 != 0)) || (r18 != 0)) || (!(decide ((⟨(r00 : Int), (r01 : Int)⟩ : Span) = (⟨(147 : Int), (151 : Int)⟩ : Span)))))) (gy_f rfl) (fun hg => x_bld (ps := [(0, I 98), (1, I 102)]) (zs := [I 0, I 0]) (L' := [I 98, I 102]) rfl Try.underlying37 Al37 rfl (Bd37 Try.underlying37) (.cons (cs := [I 98]) rfl rfl rfl rfl rfl <| .cons (cs := [I 102]) rfl rfl rfl rfl rfl <| .nil)) ?_
 refine g_val (!(((((r12 != 0) || (r14 != 0)) || (r3 != 0)) || (r18 != 0)) || (!(decide ((⟨(r00 : Int), (r01 : Int)⟩ : Span) = (⟨(147 : Int), (151 : Int)⟩ : Span)))))) (gy_f rfl) (fun hg => x_neS (eqT37 (⟨(r002 : Int), (r012 : Int)⟩ : Span) (⟨(98 : Int), (102 : Int)⟩ : Span) _) gdT37 (gd_of (c := !(((((r12 != 0) || (r14 != 0)) || (r3 != 0)) || (r18 != 0)) || (!(decide ((⟨(r00 : Int), (r01 : Int)⟩ : Span) = (⟨(147 : Int), (151 : Int)⟩ : Span)))))) hg (.agg #[I r002, I r012])) (gd_of (c := !(((((r12 != 0) || (r14 != 0)) || (r3 != 0)) || (r18 != 0)) || (!(decide ((⟨(r00 : Int), (r01 : Int)⟩ : Span) = (⟨(147 : Int), (151 : Int)⟩ : Span)))))) hg (.agg #[I 98, I 102]))) ?_
 refine s_val (x_por (b := (((((r12 != 0) || (r14 != 0)) || (r3 != 0)) || (r18 != 0)) || (!(decide ((⟨(r00 : Int), (r01 : Int)⟩ : Span) = (⟨(147 : Int), (151 : Int)⟩ : Span)))))) (r := !(decide ((⟨(r002 : Int), (r012 : Int)⟩ : Span) = (⟨(98 : Int), (102 : Int)⟩ : Span)))) rfl rfl (fun hb => gd_of (c := !(((((r12 != 0) || (r14 != 0)) || (r3 != 0)) || (r18 != 0)) || (!(decide ((⟨(r00 : Int), (r01 : Int)⟩ : Span) = (⟨(147 : Int), (151 : Int)⟩ : Span)))))) (by first | exact hb | (rw [hb]; rfl) | simp_all) (B (!(decide ((⟨(r002 : Int), (r012 : Int)⟩ : Span) = (⟨(98 : Int), (102 : Int)⟩ : Span))))))) ?_
 refine s_val (x_mv (v := B ((((((r12 != 0) || (r14 != 0)) || (r3 != 0)) || (r18 != 0)) || (!(decide ((⟨(r00 : Int), (r01 : Int)⟩ : Span) = (⟨(147 : Int), (151 : Int)⟩ : Span))))) || (!(decide ((⟨(r002 : Int), (r012 : Int)⟩ : Span) = (⟨(98 : Int), (102 : Int)⟩ : Span)))))) rfl) ?_
 refine g_val (!((((((r12 != 0) || (r14 != 0)) || (r3 != 0)) || (r18 != 0)) || (!(decide ((⟨(r00 : Int), (r01 : Int)⟩ : Span) = (⟨(147 : Int), (151 : Int)⟩ : Span))))) || (!(decide ((⟨(r002 : Int), (r012 : Int)⟩ : Span) = (⟨(98 : Int), (102 : Int)⟩ : Span)))))) (gy_f rfl) (fun hg => x_mv (v := I r2) rfl) ?_
 refine g_val (!((((((r12 != 0) || (r14 != 0)) || (r3 != 0)) || (r18 != 0)) || (!(decide ((⟨(r00 : Int), (r01 : Int)⟩ : Span) = (⟨(147 : Int), (151 : Int)⟩ : Span))))) || (!(decide ((⟨(r002 : Int), (r012 : Int)⟩ : Span) = (⟨(98 : Int), (102 : Int)⟩ : Span)))))) (gy_f rfl) (fun hg => x_cmp (kd := .i64) (a := r2) (b := -147) (r := r2 != (-147)) (gd_of (c := !((((((r12 != 0) || (r14 != 0)) || (r3 != 0)) || (r18 != 0)) || (!(decide ((⟨(r00 : Int), (r01 : Int)⟩ : Span) = (⟨(147 : Int), (151 : Int)⟩ : Span))))) || (!(decide ((⟨(r002 : Int), (r012 : Int)⟩ : Span) = (⟨(98 : Int), (102 : Int)⟩ : Span)))))) hg (I r2)) rfl rfl) ?_
 refine s_val (x_por (b := ((((((r12 != 0) || (r14 != 0)) || (r3 != 0)) || (r18 != 0)) || (!(decide ((⟨(r00 : Int), (r01 : Int)⟩ : Span) = (⟨(147 : Int), (151 : Int)⟩ : Span))))) || (!(decide ((⟨(r002 : Int), (r012 : Int)⟩ : Span) = (⟨(98 : Int), (102 : Int)⟩ : Span)))))) (r := r2 != (-147)) rfl rfl (fun hb => gd_of (c := !((((((r12 != 0) || (r14 != 0)) || (r3 != 0)) || (r18 != 0)) || (!(decide ((⟨(r00 : Int), (r01 : Int)⟩ : Span) = (⟨(147 : Int), (151 : Int)⟩ : Span))))) || (!(decide ((⟨(r002 : Int), (r012 : Int)⟩ : Span) = (⟨(98 : Int), (102 : Int)⟩ : Span)))))) (by first | exact hb | (rw [hb]; rfl) | simp_all) (B (r2 != (-147))))) ?_
 refine s_val (x_mv (v := B (((((((r12 != 0) || (r14 != 0)) || (r3 != 0)) || (r18 != 0)) || (!(decide ((⟨(r00 : Int), (r01 : Int)⟩ : Span) = (⟨(147 : Int), (151 : Int)⟩ : Span))))) || (!(decide ((⟨(r002 : Int), (r012 : Int)⟩ : Span) = (⟨(98 : Int), (102 : Int)⟩ : Span))))) || (r2 != (-147)))) rfl) ?_
 refine g_val (!(((((((r12 != 0) || (r14 != 0)) || (r3 != 0)) || (r18 != 0)) || (!(decide ((⟨(r00 : Int), (r01 : Int)⟩ : Span) = (⟨(147 : Int), (151 : Int)⟩ : Span))))) || (!(decide ((⟨(r002 : Int), (r012 : Int)⟩ : Span) = (⟨(98 : Int), (102 : Int)⟩ : Span))))) || (r2 != (-147)))) (gy_f rfl) (fun hg => x_mv (v := B r06) rfl) ?_
 refine s_val (x_por (b := (((((((r12 != 0) || (r14 != 0)) || (r3 != 0)) || (r18 != 0)) || (!(decide ((⟨(r00 : Int), (r01 : Int)⟩ : Span) = (⟨(147 : Int), (151 : Int)⟩ : Span))))) || (!(decide ((⟨(r002 : Int), (r012 : Int)⟩ : Span) = (⟨(98 : Int), (102 : Int)⟩ : Span))))) || (r2 != (-147)))) (r := r06) rfl rfl (fun hb => gd_of (c := !(((((((r12 != 0) || (r14 != 0)) || (r3 != 0)) || (r18 != 0)) || (!(decide ((⟨(r00 : Int), (r01 : Int)⟩ : Span) = (⟨(147 : Int), (151 : Int)⟩ : Span))))) || (!(decide ((⟨(r002 : Int), (r012 : Int)⟩ : Span) = (⟨(98 : Int), (102 : Int)⟩ : Span))))) || (r2 != (-147)))) (by first | exact hb | (rw [hb]; rfl) | simp_all) (B r06))) ?_
 refine s_nil ?_
 refine W.cond ((((((((r12 != 0) || (r14 != 0)) || (r3 != 0)) || (r18 != 0)) || (!(decide ((⟨(r00 : Int), (r01 : Int)⟩ : Span) = (⟨(147 : Int), (151 : Int)⟩ : Span))))) || (!(decide ((⟨(r002 : Int), (r012 : Int)⟩ : Span) = (⟨(98 : Int), (102 : Int)⟩ : Span))))) || (r2 != (-147))) || r06) rfl (fun c39z => ?_) (fun c39z => ?_)
 ·replace hM := M.e_t hM c39z
  refine W.seq ?_
  refine W.region rfl ?_
  refine s_val (x_as (v := B false) rfl) ?_
  refine s_nil ?_
  refine W.ret ?_
  have hr_ := M.e_pure hM
  exact ⟨_, resE_tmp rfl, ⟨false, hr_, rfl, (H.pick [] (by decide) rfl)⟩⟩
 ·replace hM := M.e_f hM c39z
  refine W.skip ?_
  refine W.seq ?_
  refine W.region rfl ?_
  obtain ⟨r41z, hx40z, hM⟩ := M.e_bind hM
  refine s_call cf57 [I 160] rfl (nilometerlaw01_Three_ok 160 hx40z _ (St.give (T := [cOwn (α := Line) 34 u0_7 r17, cOwn (α := Leg) 91 v25z ([(⟨(1 : Int), true⟩ : Leg), (⟨(0 : Int), true⟩ : Leg)]), cOwn (α := Line) 34 u0_5 r15, cBlk b_4 [I r002, I r012] 37, cOwn (α := Line) 34 u0_3 r13, cBlk b_2 [I r00, I r01] 37, cOwn (α := Line) 34 u0_1 r1]) H rfl)) ?_
  rintro vq w42z ⟨r07, r19, u0_8, hr43z, hvq, H2_⟩
  subst hr43z
  subst vq
  try dsimp only at hM
  replace H : St w w42z [cOwn (α := Line) 34 u0_8 r19, cOwn (α := Line) 34 u0_7 r17, cOwn (α := Leg) 91 v25z ([(⟨(1 : Int), true⟩ : Leg), (⟨(0 : Int), true⟩ : Leg)]), cOwn (α := Line) 34 u0_5 r15, cBlk b_4 [I r002, I r012] 37, cOwn (α := Line) 34 u0_3 r13, cBlk b_2 [I r00, I r01] 37, cOwn (α := Line) 34 u0_1 r1] R := H.back H2_ rfl
  clear H2_
  refine s_val (x_bld (ps := [(0, I 0)]) (zs := [I 0, B false]) (L' := [I 0, B false]) rfl Try.underlying91 Al91 rfl (Bd91 Try.underlying91) (.cons (cs := [I 0]) rfl rfl rfl rfl rfl <| .nil)) ?_
  refine s_val (x_bld (ps := [(0, I 1)]) (zs := [I 0, B false]) (L' := [I 1, B false]) rfl Try.underlying91 Al91 rfl (Bd91 Try.underlying91) (.cons (cs := [I 1]) rfl rfl rfl rfl rfl <| .nil)) ?_
  refine s_val (x_bld (ps := [(0, I 2), (1, B true)]) (zs := [I 0, B false]) (L' := [I 2, B true]) rfl Try.underlying91 Al91 rfl (Bd91 Try.underlying91) (.cons (cs := [I 2]) rfl rfl rfl rfl rfl <| .cons (cs := [B true]) rfl rfl rfl rfl rfl <| .nil)) ?_
  refine t_bs (α := Leg) T88 [.agg #[I 0, B false], .agg #[I 1, B false], .agg #[I 2, B true]] [(⟨(0 : Int), false⟩ : Leg), (⟨(1 : Int), false⟩ : Leg), (⟨(2 : Int), true⟩ : Leg)] H rfl (.cons rfl (Flat.rep_enc _ (⟨(0 : Int), false⟩ : Leg)) <| .cons rfl (Flat.rep_enc _ (⟨(1 : Int), false⟩ : Leg)) <| .cons rfl (Flat.rep_enc _ (⟨(2 : Int), true⟩ : Leg)) <| .nil) rfl rfl rfl ?_
  intro v44z w45z H
  obtain ⟨r47z, hx46z, hM⟩ := M.e_bind hM
  refine s_call cf45 [.agg #[I r07, u0_8], v44z] rfl (level_Rises_ok r07 r19 ([(⟨(0 : Int), false⟩ : Leg), (⟨(1 : Int), false⟩ : Leg), (⟨(2 : Int), true⟩ : Leg)]) (Reads.of (k := 1) rfl ownLe) (ownSl (H.get (k := 1) rfl)) (Reads.of (k := 0) rfl ownLe) (ownSl (H.get (k := 0) rfl)) hx46z _ (St.give (T := [cOwn (α := Leg) 91 v44z ([(⟨(0 : Int), false⟩ : Leg), (⟨(1 : Int), false⟩ : Leg), (⟨(2 : Int), true⟩ : Leg)]), cOwn (α := Line) 34 u0_8 r19, cOwn (α := Line) 34 u0_7 r17, cOwn (α := Leg) 91 v25z ([(⟨(1 : Int), true⟩ : Leg), (⟨(0 : Int), true⟩ : Leg)]), cOwn (α := Line) 34 u0_5 r15, cBlk b_4 [I r002, I r012] 37, cOwn (α := Line) 34 u0_3 r13, cBlk b_2 [I r00, I r01] 37, cOwn (α := Line) 34 u0_1 r1]) H rfl)) ?_
  rintro vq w48z ⟨r08, r110, r22, r32, hr49z, hvq, H2_⟩
  subst hr49z
  subst vq
  try dsimp only at hM
  replace H : St w w48z [cOwn (α := Leg) 91 v44z ([(⟨(0 : Int), false⟩ : Leg), (⟨(1 : Int), false⟩ : Leg), (⟨(2 : Int), true⟩ : Leg)]), cOwn (α := Line) 34 u0_8 r19, cOwn (α := Line) 34 u0_7 r17, cOwn (α := Leg) 91 v25z ([(⟨(1 : Int), true⟩ : Leg), (⟨(0 : Int), true⟩ : Leg)]), cOwn (α := Line) 34 u0_5 r15, cBlk b_4 [I r002, I r012] 37, cOwn (α := Line) 34 u0_3 r13, cBlk b_2 [I r00, I r01] 37, cOwn (α := Line) 34 u0_1 r1] R := H.back H2_ rfl
  clear H2_
  refine s_val (x_mv (v := .tuple #[I r08, I r110, I r22, I r32]) rfl) ?_
  refine s_val (x_ext (vs := [I r08, I r110, I r22, I r32]) (v := I r08) rfl rfl) ?_
  refine s_val (x_ext (vs := [I r08, I r110, I r22, I r32]) (v := I r110) rfl rfl) ?_
  refine s_val (x_ext (vs := [I r08, I r110, I r22, I r32]) (v := I r22) rfl rfl) ?_
  refine s_val (x_ext (vs := [I r08, I r110, I r22, I r32]) (v := I r32) rfl rfl) ?_
  refine s_val (x_as (v := I r08) rfl) ?_
  refine s_val (x_as (v := I r110) rfl) ?_
  refine s_val (x_as (v := I r22) rfl) ?_
  refine s_val (x_as (v := I r32) rfl) ?_
  refine s_nil ?_
  refine W.seq ?_
  refine W.region rfl ?_
  obtain ⟨r51z, hx50z, hM⟩ := M.e_bind hM
  refine s_call cf57 [I 160] rfl (nilometerlaw01_Three_ok 160 hx50z _ (St.give (T := [cOwn (α := Leg) 91 v44z ([(⟨(0 : Int), false⟩ : Leg), (⟨(1 : Int), false⟩ : Leg), (⟨(2 : Int), true⟩ : Leg)]), cOwn (α := Line) 34 u0_8 r19, cOwn (α := Line) 34 u0_7 r17, cOwn (α := Leg) 91 v25z ([(⟨(1 : Int), true⟩ : Leg), (⟨(0 : Int), true⟩ : Leg)]), cOwn (α := Line) 34 u0_5 r15, cBlk b_4 [I r002, I r012] 37, cOwn (α := Line) 34 u0_3 r13, cBlk b_2 [I r00, I r01] 37, cOwn (α := Line) 34 u0_1 r1]) H rfl)) ?_
  rintro vq w52z ⟨r09, r111, u0_10, hr53z, hvq, H2_⟩
  subst hr53z
  subst vq
  try dsimp only at hM
  replace H : St w w52z [cOwn (α := Line) 34 u0_10 r111, cOwn (α := Leg) 91 v44z ([(⟨(0 : Int), false⟩ : Leg), (⟨(1 : Int), false⟩ : Leg), (⟨(2 : Int), true⟩ : Leg)]), cOwn (α := Line) 34 u0_8 r19, cOwn (α := Line) 34 u0_7 r17, cOwn (α := Leg) 91 v25z ([(⟨(1 : Int), true⟩ : Leg), (⟨(0 : Int), true⟩ : Leg)]), cOwn (α := Line) 34 u0_5 r15, cBlk b_4 [I r002, I r012] 37, cOwn (α := Line) 34 u0_3 r13, cBlk b_2 [I r00, I r01] 37, cOwn (α := Line) 34 u0_1 r1] R := H.back H2_ rfl
  clear H2_
  obtain ⟨r55z, hx54z, hM⟩ := M.e_bind hM
  refine s_call cf21 [.agg #[I r09, u0_10]] rfl (level_Moves_ok r09 r111 (Reads.of (k := 0) rfl ownLe) (ownSl (H.get (k := 0) rfl)) hx54z _ (St.give (T := [cOwn (α := Line) 34 u0_10 r111, cOwn (α := Leg) 91 v44z ([(⟨(0 : Int), false⟩ : Leg), (⟨(1 : Int), false⟩ : Leg), (⟨(2 : Int), true⟩ : Leg)]), cOwn (α := Line) 34 u0_8 r19, cOwn (α := Line) 34 u0_7 r17, cOwn (α := Leg) 91 v25z ([(⟨(1 : Int), true⟩ : Leg), (⟨(0 : Int), true⟩ : Leg)]), cOwn (α := Line) 34 u0_5 r15, cBlk b_4 [I r002, I r012] 37, cOwn (α := Line) 34 u0_3 r13, cBlk b_2 [I r00, I r01] 37, cOwn (α := Line) 34 u0_1 r1]) H rfl)) ?_
  rintro vq w56z ⟨r010, r112, u0_11, hr57z, hvq, H2_⟩
  subst hr57z
  subst vq
  try dsimp only at hM
  replace H : St w w56z [cOwn (α := Mv) 50 u0_11 r010, cOwn (α := Line) 34 u0_10 r111, cOwn (α := Leg) 91 v44z ([(⟨(0 : Int), false⟩ : Leg), (⟨(1 : Int), false⟩ : Leg), (⟨(2 : Int), true⟩ : Leg)]), cOwn (α := Line) 34 u0_8 r19, cOwn (α := Line) 34 u0_7 r17, cOwn (α := Leg) 91 v25z ([(⟨(1 : Int), true⟩ : Leg), (⟨(0 : Int), true⟩ : Leg)]), cOwn (α := Line) 34 u0_5 r15, cBlk b_4 [I r002, I r012] 37, cOwn (α := Line) 34 u0_3 r13, cBlk b_2 [I r00, I r01] 37, cOwn (α := Line) 34 u0_1 r1] R := H.back H2_ rfl
  clear H2_
  refine s_val (x_mv (v := .tuple #[u0_11, I r112]) rfl) ?_
  refine s_val (x_ext (vs := [u0_11, I r112]) (v := u0_11) rfl rfl) ?_
  refine s_val (x_ext (vs := [u0_11, I r112]) (v := I r112) rfl rfl) ?_
  refine s_val (x_as (v := u0_11) rfl) ?_
  refine s_val (x_as (v := I r112) rfl) ?_
  refine s_nil ?_
  refine W.seq ?_
  refine W.region rfl ?_
  obtain ⟨r59z, hx58z, hM⟩ := M.e_bind hM
  refine s_call cf57 [I 160] rfl (nilometerlaw01_Three_ok 160 hx58z _ (St.give (T := [cOwn (α := Mv) 50 u0_11 r010, cOwn (α := Line) 34 u0_10 r111, cOwn (α := Leg) 91 v44z ([(⟨(0 : Int), false⟩ : Leg), (⟨(1 : Int), false⟩ : Leg), (⟨(2 : Int), true⟩ : Leg)]), cOwn (α := Line) 34 u0_8 r19, cOwn (α := Line) 34 u0_7 r17, cOwn (α := Leg) 91 v25z ([(⟨(1 : Int), true⟩ : Leg), (⟨(0 : Int), true⟩ : Leg)]), cOwn (α := Line) 34 u0_5 r15, cBlk b_4 [I r002, I r012] 37, cOwn (α := Line) 34 u0_3 r13, cBlk b_2 [I r00, I r01] 37, cOwn (α := Line) 34 u0_1 r1]) H rfl)) ?_
  rintro vq w60z ⟨r011, r113, u0_12, hr61z, hvq, H2_⟩
  subst hr61z
  subst vq
  try dsimp only at hM
  replace H : St w w60z [cOwn (α := Line) 34 u0_12 r113, cOwn (α := Mv) 50 u0_11 r010, cOwn (α := Line) 34 u0_10 r111, cOwn (α := Leg) 91 v44z ([(⟨(0 : Int), false⟩ : Leg), (⟨(1 : Int), false⟩ : Leg), (⟨(2 : Int), true⟩ : Leg)]), cOwn (α := Line) 34 u0_8 r19, cOwn (α := Line) 34 u0_7 r17, cOwn (α := Leg) 91 v25z ([(⟨(1 : Int), true⟩ : Leg), (⟨(0 : Int), true⟩ : Leg)]), cOwn (α := Line) 34 u0_5 r15, cBlk b_4 [I r002, I r012] 37, cOwn (α := Line) 34 u0_3 r13, cBlk b_2 [I r00, I r01] 37, cOwn (α := Line) 34 u0_1 r1] R := H.back H2_ rfl
  clear H2_
  obtain ⟨r63z, hx62z, hM⟩ := M.e_bind hM
  refine s_call cf32 [.agg #[I r011, u0_12]] rfl (level_Convict_ok r011 r113 (Reads.of (k := 0) rfl ownLe) (ownSl (H.get (k := 0) rfl)) hx62z _ (St.give (T := [cOwn (α := Line) 34 u0_12 r113, cOwn (α := Mv) 50 u0_11 r010, cOwn (α := Line) 34 u0_10 r111, cOwn (α := Leg) 91 v44z ([(⟨(0 : Int), false⟩ : Leg), (⟨(1 : Int), false⟩ : Leg), (⟨(2 : Int), true⟩ : Leg)]), cOwn (α := Line) 34 u0_8 r19, cOwn (α := Line) 34 u0_7 r17, cOwn (α := Leg) 91 v25z ([(⟨(1 : Int), true⟩ : Leg), (⟨(0 : Int), true⟩ : Leg)]), cOwn (α := Line) 34 u0_5 r15, cBlk b_4 [I r002, I r012] 37, cOwn (α := Line) 34 u0_3 r13, cBlk b_2 [I r00, I r01] 37, cOwn (α := Line) 34 u0_1 r1]) H rfl)) ?_
  rintro vq w64z ⟨r013, r114, hr65z, hvq, H2_⟩
  subst hr65z
  subst vq
  try dsimp only at hM
  replace H : St w w64z [cOwn (α := Line) 34 u0_12 r113, cOwn (α := Mv) 50 u0_11 r010, cOwn (α := Line) 34 u0_10 r111, cOwn (α := Leg) 91 v44z ([(⟨(0 : Int), false⟩ : Leg), (⟨(1 : Int), false⟩ : Leg), (⟨(2 : Int), true⟩ : Leg)]), cOwn (α := Line) 34 u0_8 r19, cOwn (α := Line) 34 u0_7 r17, cOwn (α := Leg) 91 v25z ([(⟨(1 : Int), true⟩ : Leg), (⟨(0 : Int), true⟩ : Leg)]), cOwn (α := Line) 34 u0_5 r15, cBlk b_4 [I r002, I r012] 37, cOwn (α := Line) 34 u0_3 r13, cBlk b_2 [I r00, I r01] 37, cOwn (α := Line) 34 u0_1 r1] R := H.back H2_ rfl
  clear H2_
  refine s_val (x_mv (v := .tuple #[I r013, I r114]) rfl) ?_
  refine s_val (x_ext (vs := [I r013, I r114]) (v := I r013) rfl rfl) ?_
  refine s_val (x_ext (vs := [I r013, I r114]) (v := I r114) rfl rfl) ?_
  refine s_val (x_as (v := I r114) rfl) ?_
  refine s_nil ?_
  refine W.seq ?_
  refine W.region rfl ?_
  obtain ⟨r67z, hx66z, hM⟩ := M.e_bind hM
  refine s_call cf57 [I 160] rfl (nilometerlaw01_Three_ok 160 hx66z _ (St.give (T := [cOwn (α := Line) 34 u0_12 r113, cOwn (α := Mv) 50 u0_11 r010, cOwn (α := Line) 34 u0_10 r111, cOwn (α := Leg) 91 v44z ([(⟨(0 : Int), false⟩ : Leg), (⟨(1 : Int), false⟩ : Leg), (⟨(2 : Int), true⟩ : Leg)]), cOwn (α := Line) 34 u0_8 r19, cOwn (α := Line) 34 u0_7 r17, cOwn (α := Leg) 91 v25z ([(⟨(1 : Int), true⟩ : Leg), (⟨(0 : Int), true⟩ : Leg)]), cOwn (α := Line) 34 u0_5 r15, cBlk b_4 [I r002, I r012] 37, cOwn (α := Line) 34 u0_3 r13, cBlk b_2 [I r00, I r01] 37, cOwn (α := Line) 34 u0_1 r1]) H rfl)) ?_
  rintro vq w68z ⟨r014, r115, u0_13, hr69z, hvq, H2_⟩
  subst hr69z
  subst vq
  try dsimp only at hM
  replace H : St w w68z [cOwn (α := Line) 34 u0_13 r115, cOwn (α := Line) 34 u0_12 r113, cOwn (α := Mv) 50 u0_11 r010, cOwn (α := Line) 34 u0_10 r111, cOwn (α := Leg) 91 v44z ([(⟨(0 : Int), false⟩ : Leg), (⟨(1 : Int), false⟩ : Leg), (⟨(2 : Int), true⟩ : Leg)]), cOwn (α := Line) 34 u0_8 r19, cOwn (α := Line) 34 u0_7 r17, cOwn (α := Leg) 91 v25z ([(⟨(1 : Int), true⟩ : Leg), (⟨(0 : Int), true⟩ : Leg)]), cOwn (α := Line) 34 u0_5 r15, cBlk b_4 [I r002, I r012] 37, cOwn (α := Line) 34 u0_3 r13, cBlk b_2 [I r00, I r01] 37, cOwn (α := Line) 34 u0_1 r1] R := H.back H2_ rfl
  clear H2_
  refine t_alloc (cs := [I 0, .slice none 0 0]) H Al25 rfl ?_
  intro b_14 w70z H
  refine t_st (k := 0) (b := b_14) (off := 0) (cs := [I 0, .slice none 0 0]) (vs := [I r014, u0_13]) (cs' := [I r014, u0_13]) (v := .agg #[I r014, u0_13]) (L' := [cBlk b_14 [I r014, u0_13] 25, cOwn (α := Line) 34 u0_13 r115, cOwn (α := Line) 34 u0_12 r113, cOwn (α := Mv) 50 u0_11 r010, cOwn (α := Line) 34 u0_10 r111, cOwn (α := Leg) 91 v44z ([(⟨(0 : Int), false⟩ : Leg), (⟨(1 : Int), false⟩ : Leg), (⟨(2 : Int), true⟩ : Leg)]), cOwn (α := Line) 34 u0_8 r19, cOwn (α := Line) 34 u0_7 r17, cOwn (α := Leg) 91 v25z ([(⟨(1 : Int), true⟩ : Leg), (⟨(0 : Int), true⟩ : Leg)]), cOwn (α := Line) 34 u0_5 r15, cBlk b_4 [I r002, I r012] 37, cOwn (α := Line) 34 u0_3 r13, cBlk b_2 [I r00, I r01] 37, cOwn (α := Line) 34 u0_1 r1]) H rfl rfl rfl Sz25 rfl rfl rfl (by simp only [List.all_cons, List.all_nil, Bool.true_and, Bool.and_true, Sl.oc (ownSl (H.get (k := 1) rfl))]; try rfl) rfl rfl ?_
  intro w71z H
  refine s_nil ?_
  refine W.seq ?_
  refine W.region rfl ?_
  refine s_val (x_fa (a := .pointer (some ⟨b_14, 0, none⟩)) (v := .pointer (some ⟨b_14, 1, none⟩)) rfl (fa_blk (o := 0) Fd25_1 Sz23)) ?_
  refine s_val (x_ld (p := .pointer (some ⟨b_14, 1, none⟩)) (v := u0_13) rfl (ldb_sc Sc23 (H.blk (k := 0) rfl) rfl)) ?_
  refine s_val (x_bld (ps := [(0, I 2), (1, I 1), (2, I 9), (3, I (-50)), (4, I 1)]) (zs := [I 0, I 0, I 0, I 0, I 0]) (L' := [I 2, I 1, I 9, I (-50), I 1]) rfl Try.underlying34 Al34 rfl (Bd34 Try.underlying34) (.cons (cs := [I 2]) rfl rfl rfl rfl rfl <| .cons (cs := [I 1]) rfl rfl rfl rfl rfl <| .cons (cs := [I 9]) rfl rfl rfl rfl rfl <| .cons (cs := [I (-50)]) rfl rfl rfl rfl rfl <| .cons (cs := [I 1]) rfl rfl rfl rfl rfl <| .nil)) ?_
  refine t_bs (α := Line) T23 [.agg #[I 2, I 1, I 9, I (-50), I 1]] [(⟨(2 : Int), (1 : Int), (9 : Int), (-50 : Int), (1 : Int)⟩ : Line)] H rfl (.cons rfl (Flat.rep_enc _ (⟨(2 : Int), (1 : Int), (9 : Int), (-50 : Int), (1 : Int)⟩ : Line)) <| .nil) rfl rfl rfl ?_
  intro v72z w73z H
  obtain ⟨sd74z, hM⟩ := M.e_grd hM
  simp only [Bool.and_eq_true, decide_eq_true_eq] at sd74z
  refine t_app (α := Line) (k := 2) (l := r115) (l2 := [(⟨(2 : Int), (1 : Int), (9 : Int), (-50 : Int), (1 : Int)⟩ : Line)]) (l' := r115 ++ ([(⟨(2 : Int), (1 : Int), (9 : Int), (-50 : Int), (1 : Int)⟩ : Line)])) (vy := v72z) T23 rfl H rfl rfl rfl (ownSl (H.get (k := 0) rfl)) (ownLe _ (H.get (k := 0) rfl)) (rfl) (by first | omega | (simp only [List.length_nil] at *; omega)) ?_
  intro v75z w76z H
  replace H : St w w76z [cOwn (α := Line) 34 v72z ([(⟨(2 : Int), (1 : Int), (9 : Int), (-50 : Int), (1 : Int)⟩ : Line)]), cBlk b_14 [I r014, u0_13] 25, cOwn (α := Line) 34 v75z (r115 ++ ([(⟨(2 : Int), (1 : Int), (9 : Int), (-50 : Int), (1 : Int)⟩ : Line)])), cOwn (α := Line) 34 u0_12 r113, cOwn (α := Mv) 50 u0_11 r010, cOwn (α := Line) 34 u0_10 r111, cOwn (α := Leg) 91 v44z ([(⟨(0 : Int), false⟩ : Leg), (⟨(1 : Int), false⟩ : Leg), (⟨(2 : Int), true⟩ : Leg)]), cOwn (α := Line) 34 u0_8 r19, cOwn (α := Line) 34 u0_7 r17, cOwn (α := Leg) 91 v25z ([(⟨(1 : Int), true⟩ : Leg), (⟨(0 : Int), true⟩ : Leg)]), cOwn (α := Line) 34 u0_5 r15, cBlk b_4 [I r002, I r012] 37, cOwn (α := Line) 34 u0_3 r13, cBlk b_2 [I r00, I r01] 37, cOwn (α := Line) 34 u0_1 r1] R := H
  refine s_val (x_fa (a := .pointer (some ⟨b_14, 0, none⟩)) (v := .pointer (some ⟨b_14, 1, none⟩)) rfl (fa_blk (o := 0) Fd25_1 Sz23)) ?_
  refine t_st (k := 1) (b := b_14) (off := 1) (cs := [I r014, u0_13]) (vs := [v75z]) (cs' := [I r014, v75z]) (v := v75z) (L' := [cOwn (α := Line) 34 v72z ([(⟨(2 : Int), (1 : Int), (9 : Int), (-50 : Int), (1 : Int)⟩ : Line)]), cBlk b_14 [I r014, v75z] 25, cOwn (α := Line) 34 v75z (r115 ++ ([(⟨(2 : Int), (1 : Int), (9 : Int), (-50 : Int), (1 : Int)⟩ : Line)])), cOwn (α := Line) 34 u0_12 r113, cOwn (α := Mv) 50 u0_11 r010, cOwn (α := Line) 34 u0_10 r111, cOwn (α := Leg) 91 v44z ([(⟨(0 : Int), false⟩ : Leg), (⟨(1 : Int), false⟩ : Leg), (⟨(2 : Int), true⟩ : Leg)]), cOwn (α := Line) 34 u0_8 r19, cOwn (α := Line) 34 u0_7 r17, cOwn (α := Leg) 91 v25z ([(⟨(1 : Int), true⟩ : Leg), (⟨(0 : Int), true⟩ : Leg)]), cOwn (α := Line) 34 u0_5 r15, cBlk b_4 [I r002, I r012] 37, cOwn (α := Line) 34 u0_3 r13, cBlk b_2 [I r00, I r01] 37, cOwn (α := Line) 34 u0_1 r1]) H rfl rfl rfl Sz23 (Sl.cells (ownSl (H.get (k := 2) rfl))) rfl rfl (by simp only [List.all_cons, List.all_nil, Bool.true_and, Bool.and_true, Sl.oc (ownSl (H.get (k := 2) rfl))]; try rfl) rfl rfl ?_
  intro w77z H
  refine s_nil ?_
  refine W.seq ?_
  refine W.region rfl ?_
  refine s_val (x_ld (p := .pointer (some ⟨b_14, 0, none⟩)) (v := .agg #[I r014, v75z]) rfl (ldb_ag (ds := [I r014, v75z]) Ag25 Sz25 (H.blk (k := 1) rfl) rfl rfl)) ?_
  obtain ⟨r79z, hx78z, hM⟩ := M.e_bind hM
  refine s_call cf32 [.agg #[I r014, v75z]] rfl (level_Convict_ok r014 (r115 ++ ([(⟨(2 : Int), (1 : Int), (9 : Int), (-50 : Int), (1 : Int)⟩ : Line)])) (Reads.of (k := 2) rfl ownLe) (ownSl (H.get (k := 2) rfl)) hx78z _ (St.give (T := [cOwn (α := Line) 34 v72z ([(⟨(2 : Int), (1 : Int), (9 : Int), (-50 : Int), (1 : Int)⟩ : Line)]), cBlk b_14 [I r014, v75z] 25, cOwn (α := Line) 34 v75z (r115 ++ ([(⟨(2 : Int), (1 : Int), (9 : Int), (-50 : Int), (1 : Int)⟩ : Line)])), cOwn (α := Line) 34 u0_12 r113, cOwn (α := Mv) 50 u0_11 r010, cOwn (α := Line) 34 u0_10 r111, cOwn (α := Leg) 91 v44z ([(⟨(0 : Int), false⟩ : Leg), (⟨(1 : Int), false⟩ : Leg), (⟨(2 : Int), true⟩ : Leg)]), cOwn (α := Line) 34 u0_8 r19, cOwn (α := Line) 34 u0_7 r17, cOwn (α := Leg) 91 v25z ([(⟨(1 : Int), true⟩ : Leg), (⟨(0 : Int), true⟩ : Leg)]), cOwn (α := Line) 34 u0_5 r15, cBlk b_4 [I r002, I r012] 37, cOwn (α := Line) 34 u0_3 r13, cBlk b_2 [I r00, I r01] 37, cOwn (α := Line) 34 u0_1 r1]) H rfl)) ?_
  rintro vq w80z ⟨r015, r116, hr81z, hvq, H2_⟩
  subst hr81z
  subst vq
  try dsimp only at hM
  replace H : St w w80z [cOwn (α := Line) 34 v72z ([(⟨(2 : Int), (1 : Int), (9 : Int), (-50 : Int), (1 : Int)⟩ : Line)]), cBlk b_14 [I r014, v75z] 25, cOwn (α := Line) 34 v75z (r115 ++ ([(⟨(2 : Int), (1 : Int), (9 : Int), (-50 : Int), (1 : Int)⟩ : Line)])), cOwn (α := Line) 34 u0_12 r113, cOwn (α := Mv) 50 u0_11 r010, cOwn (α := Line) 34 u0_10 r111, cOwn (α := Leg) 91 v44z ([(⟨(0 : Int), false⟩ : Leg), (⟨(1 : Int), false⟩ : Leg), (⟨(2 : Int), true⟩ : Leg)]), cOwn (α := Line) 34 u0_8 r19, cOwn (α := Line) 34 u0_7 r17, cOwn (α := Leg) 91 v25z ([(⟨(1 : Int), true⟩ : Leg), (⟨(0 : Int), true⟩ : Leg)]), cOwn (α := Line) 34 u0_5 r15, cBlk b_4 [I r002, I r012] 37, cOwn (α := Line) 34 u0_3 r13, cBlk b_2 [I r00, I r01] 37, cOwn (α := Line) 34 u0_1 r1] R := H.back H2_ rfl
  clear H2_
  refine s_val (x_mv (v := .tuple #[I r015, I r116]) rfl) ?_
  refine s_val (x_ext (vs := [I r015, I r116]) (v := I r015) rfl rfl) ?_
  refine s_val (x_ext (vs := [I r015, I r116]) (v := I r116) rfl rfl) ?_
  refine s_val (x_as (v := I r015) rfl) ?_
  refine s_val (x_as (v := I r116) rfl) ?_
  refine s_nil ?_
  refine W.seq ?_
  refine W.region rfl ?_
  refine s_val (x_mv (v := I r32) rfl) ?_
  refine s_val (x_cmp (kd := .i64) (a := r32) (b := 0) (r := r32 == 0) rfl rfl rfl) ?_
  refine s_val (x_mv (v := B (r32 == 0)) rfl) ?_
  refine g_val (r32 == 0) (gy_t rfl) (fun hg => x_mv (v := I r112) rfl) ?_
  refine g_val (r32 == 0) (gy_t rfl) (fun hg => x_cmp (kd := .i64) (a := r112) (b := 0) (r := r112 == 0) (gd_of (c := r32 == 0) hg (I r112)) rfl rfl) ?_
  refine s_val (x_pand (b := r32 == 0) (r := r112 == 0) rfl (fun hb => gd_of (c := r32 == 0) (by first | exact hb | (rw [hb]; rfl) | simp_all) (B (r112 == 0))) rfl) ?_
  refine s_val (x_mv (v := B ((r32 == 0) && (r112 == 0))) rfl) ?_
  refine g_val ((r32 == 0) && (r112 == 0)) (gy_t rfl) (fun hg => x_mv (v := I r114) rfl) ?_
  refine g_val ((r32 == 0) && (r112 == 0)) (gy_t rfl) (fun hg => x_cmp (kd := .i64) (a := r114) (b := 11) (r := r114 == 11) (gd_of (c := ((r32 == 0) && (r112 == 0))) hg (I r114)) rfl rfl) ?_
  refine s_val (x_pand (b := ((r32 == 0) && (r112 == 0))) (r := r114 == 11) rfl (fun hb => gd_of (c := ((r32 == 0) && (r112 == 0))) (by first | exact hb | (rw [hb]; rfl) | simp_all) (B (r114 == 11))) rfl) ?_
  refine s_val (x_mv (v := B (((r32 == 0) && (r112 == 0)) && (r114 == 11))) rfl) ?_
  refine g_val (((r32 == 0) && (r112 == 0)) && (r114 == 11)) (gy_t rfl) (fun hg => x_mv (v := I r116) rfl) ?_
  refine g_val (((r32 == 0) && (r112 == 0)) && (r114 == 11)) (gy_t rfl) (fun hg => x_cmp (kd := .i64) (a := r116) (b := 0) (r := r116 == 0) (gd_of (c := (((r32 == 0) && (r112 == 0)) && (r114 == 11))) hg (I r116)) rfl rfl) ?_
  refine s_val (x_pand (b := (((r32 == 0) && (r112 == 0)) && (r114 == 11))) (r := r116 == 0) rfl (fun hb => gd_of (c := (((r32 == 0) && (r112 == 0)) && (r114 == 11))) (by first | exact hb | (rw [hb]; rfl) | simp_all) (B (r116 == 0))) rfl) ?_
  refine s_val (x_mv (v := B ((((r32 == 0) && (r112 == 0)) && (r114 == 11)) && (r116 == 0))) rfl) ?_
  refine g_val ((((r32 == 0) && (r112 == 0)) && (r114 == 11)) && (r116 == 0)) (gy_t rfl) (fun hg => x_mv (v := I r08) rfl) ?_
  refine g_val ((((r32 == 0) && (r112 == 0)) && (r114 == 11)) && (r116 == 0)) (gy_t rfl) (fun hg => x_cmp (kd := .i64) (a := r08) (b := 0) (r := r08 == 0) (gd_of (c := ((((r32 == 0) && (r112 == 0)) && (r114 == 11)) && (r116 == 0))) hg (I r08)) rfl rfl) ?_
  refine s_val (x_pand (b := ((((r32 == 0) && (r112 == 0)) && (r114 == 11)) && (r116 == 0))) (r := r08 == 0) rfl (fun hb => gd_of (c := ((((r32 == 0) && (r112 == 0)) && (r114 == 11)) && (r116 == 0))) (by first | exact hb | (rw [hb]; rfl) | simp_all) (B (r08 == 0))) rfl) ?_
  refine s_val (x_mv (v := B (((((r32 == 0) && (r112 == 0)) && (r114 == 11)) && (r116 == 0)) && (r08 == 0))) rfl) ?_
  refine g_val (((((r32 == 0) && (r112 == 0)) && (r114 == 11)) && (r116 == 0)) && (r08 == 0)) (gy_t rfl) (fun hg => x_mv (v := I r110) rfl) ?_
  refine g_val (((((r32 == 0) && (r112 == 0)) && (r114 == 11)) && (r116 == 0)) && (r08 == 0)) (gy_t rfl) (fun hg => x_cmp (kd := .i64) (a := r110) (b := 0) (r := r110 == 0) (gd_of (c := (((((r32 == 0) && (r112 == 0)) && (r114 == 11)) && (r116 == 0)) && (r08 == 0))) hg (I r110)) rfl rfl) ?_
  refine s_val (x_pand (b := (((((r32 == 0) && (r112 == 0)) && (r114 == 11)) && (r116 == 0)) && (r08 == 0))) (r := r110 == 0) rfl (fun hb => gd_of (c := (((((r32 == 0) && (r112 == 0)) && (r114 == 11)) && (r116 == 0)) && (r08 == 0))) (by first | exact hb | (rw [hb]; rfl) | simp_all) (B (r110 == 0))) rfl) ?_
  refine s_val (x_mv (v := B ((((((r32 == 0) && (r112 == 0)) && (r114 == 11)) && (r116 == 0)) && (r08 == 0)) && (r110 == 0))) rfl) ?_
  refine g_val ((((((r32 == 0) && (r112 == 0)) && (r114 == 11)) && (r116 == 0)) && (r08 == 0)) && (r110 == 0)) (gy_t rfl) (fun hg => x_mv (v := I r22) rfl) ?_
  refine g_val ((((((r32 == 0) && (r112 == 0)) && (r114 == 11)) && (r116 == 0)) && (r08 == 0)) && (r110 == 0)) (gy_t rfl) (fun hg => x_cmp (kd := .i64) (a := r22) (b := -4) (r := r22 == (-4)) (gd_of (c := ((((((r32 == 0) && (r112 == 0)) && (r114 == 11)) && (r116 == 0)) && (r08 == 0)) && (r110 == 0))) hg (I r22)) rfl rfl) ?_
  refine s_val (x_pand (b := ((((((r32 == 0) && (r112 == 0)) && (r114 == 11)) && (r116 == 0)) && (r08 == 0)) && (r110 == 0))) (r := r22 == (-4)) rfl (fun hb => gd_of (c := ((((((r32 == 0) && (r112 == 0)) && (r114 == 11)) && (r116 == 0)) && (r08 == 0)) && (r110 == 0))) (by first | exact hb | (rw [hb]; rfl) | simp_all) (B (r22 == (-4)))) rfl) ?_
  refine s_val (x_mv (v := B (((((((r32 == 0) && (r112 == 0)) && (r114 == 11)) && (r116 == 0)) && (r08 == 0)) && (r110 == 0)) && (r22 == (-4)))) rfl) ?_
  refine g_val (((((((r32 == 0) && (r112 == 0)) && (r114 == 11)) && (r116 == 0)) && (r08 == 0)) && (r110 == 0)) && (r22 == (-4))) (gy_t rfl) (fun hg => x_mv (v := u0_11) rfl) ?_
  refine g_val (((((((r32 == 0) && (r112 == 0)) && (r114 == 11)) && (r116 == 0)) && (r08 == 0)) && (r110 == 0)) && (r22 == (-4))) (gy_t rfl) (fun hg => x_bld (ps := [(0, I 0), (1, I 6)]) (zs := [I 0, I 0]) (L' := [I 0, I 6]) rfl Try.underlying50 Al50 rfl (Bd50 Try.underlying50) (.cons (cs := [I 0]) rfl rfl rfl rfl rfl <| .cons (cs := [I 6]) rfl rfl rfl rfl rfl <| .nil)) ?_
  refine g_val (((((((r32 == 0) && (r112 == 0)) && (r114 == 11)) && (r116 == 0)) && (r08 == 0)) && (r110 == 0)) && (r22 == (-4))) (gy_t rfl) (fun hg => x_bld (ps := [(0, I 2), (1, I 6)]) (zs := [I 0, I 0]) (L' := [I 2, I 6]) rfl Try.underlying50 Al50 rfl (Bd50 Try.underlying50) (.cons (cs := [I 2]) rfl rfl rfl rfl rfl <| .cons (cs := [I 6]) rfl rfl rfl rfl rfl <| .nil)) ?_
  refine t_gbs (α := Mv) T46 (((((((r32 == 0) && (r112 == 0)) && (r114 == 11)) && (r116 == 0)) && (r08 == 0)) && (r110 == 0)) && (r22 == (-4))) (gy_t rfl) [.agg #[I 0, I 6], .agg #[I 2, I 6]] [(⟨(0 : Int), (6 : Int)⟩ : Mv), (⟨(2 : Int), (6 : Int)⟩ : Mv)] H (fun hg => by exact prs2 (gd_of (c := (((((((r32 == 0) && (r112 == 0)) && (r114 == 11)) && (r116 == 0)) && (r08 == 0)) && (r110 == 0)) && (r22 == (-4)))) hg (.agg #[I 0, I 6])) (gd_of (c := (((((((r32 == 0) && (r112 == 0)) && (r114 == 11)) && (r116 == 0)) && (r08 == 0)) && (r110 == 0)) && (r22 == (-4)))) hg (.agg #[I 2, I 6]))) (.cons rfl (Flat.rep_enc _ (⟨(0 : Int), (6 : Int)⟩ : Mv)) <| .cons rfl (Flat.rep_enc _ (⟨(2 : Int), (6 : Int)⟩ : Mv)) <| .nil) rfl rfl rfl ?_
  intro v82z Bs_16 w83z H hf84z
  obtain ⟨r4, hx85z, hM⟩ := M.e_bind hM
  refine t_gcall (((((((r32 == 0) && (r112 == 0)) && (r114 == 11)) && (r116 == 0)) && (r08 == 0)) && (r110 == 0)) && (r22 == (-4))) (gy_t rfl) cf58 (B r4) (fun _ => [u0_11, v82z]) (fun hg => lst2 (gd_of (c := (((((((r32 == 0) && (r112 == 0)) && (r114 == 11)) && (r116 == 0)) && (r08 == 0)) && (r110 == 0)) && (r22 == (-4)))) hg (u0_11)) (gd_of (c := (((((((r32 == 0) && (r112 == 0)) && (r114 == 11)) && (r116 == 0)) && (r08 == 0)) && (r110 == 0)) && (r22 == (-4)))) hg (v82z))) H (fun hg => (nilometerkit_Same_level_Move_ok r010 ([(⟨(0 : Int), (6 : Int)⟩ : Mv), (⟨(2 : Int), (6 : Int)⟩ : Mv)]) (Reads.of (k := 5) rfl ownLe) (ownSl (H.get (k := 5) rfl)) (Reads.of (k := 0) rfl roLe) (hf84z hg) (M.e_opt hx85z hg) _ (H.give (A := []) rfl)).mono fun v_ w_ ⟨y_, hr_, hv_, H_⟩ => by subst hr_; exact ⟨hv_, H.via H_⟩) ?_
  intro w86z H
  refine s_val (x_pand (b := (((((((r32 == 0) && (r112 == 0)) && (r114 == 11)) && (r116 == 0)) && (r08 == 0)) && (r110 == 0)) && (r22 == (-4)))) (r := r4) rfl (fun hb => gd_of (c := (((((((r32 == 0) && (r112 == 0)) && (r114 == 11)) && (r116 == 0)) && (r08 == 0)) && (r110 == 0)) && (r22 == (-4)))) (by first | exact hb | (rw [hb]; rfl) | simp_all) (B r4)) rfl) ?_
  refine s_val (x_mv (v := B ((((((((r32 == 0) && (r112 == 0)) && (r114 == 11)) && (r116 == 0)) && (r08 == 0)) && (r110 == 0)) && (r22 == (-4))) && r4)) rfl) ?_
  refine g_val ((((((((r32 == 0) && (r112 == 0)) && (r114 == 11)) && (r116 == 0)) && (r08 == 0)) && (r110 == 0)) && (r22 == (-4))) && r4) (gy_t rfl) (fun hg => x_mv (v := I r015) rfl) ?_
  refine g_val ((((((((r32 == 0) && (r112 == 0)) && (r114 == 11)) && (r116 == 0)) && (r08 == 0)) && (r110 == 0)) && (r22 == (-4))) && r4) (gy_t rfl) (fun hg => x_cmp (kd := .i64) (a := r015) (b := 0) (r := r015 == 0) (gd_of (c := ((((((((r32 == 0) && (r112 == 0)) && (r114 == 11)) && (r116 == 0)) && (r08 == 0)) && (r110 == 0)) && (r22 == (-4))) && r4)) hg (I r015)) rfl rfl) ?_
  refine s_val (x_pand (b := ((((((((r32 == 0) && (r112 == 0)) && (r114 == 11)) && (r116 == 0)) && (r08 == 0)) && (r110 == 0)) && (r22 == (-4))) && r4)) (r := r015 == 0) rfl (fun hb => gd_of (c := ((((((((r32 == 0) && (r112 == 0)) && (r114 == 11)) && (r116 == 0)) && (r08 == 0)) && (r110 == 0)) && (r22 == (-4))) && r4)) (by first | exact hb | (rw [hb]; rfl) | simp_all) (B (r015 == 0))) rfl) ?_
  refine s_val (x_as (v := B (((((((((r32 == 0) && (r112 == 0)) && (r114 == 11)) && (r116 == 0)) && (r08 == 0)) && (r110 == 0)) && (r22 == (-4))) && r4) && (r015 == 0))) rfl) ?_
  refine s_nil ?_
  refine W.ret ?_
  have hr_ := M.e_pure hM
  exact ⟨_, resE_tmp rfl, ⟨(((((((((r32 == 0) && (r112 == 0)) && (r114 == 11)) && (r116 == 0)) && (r08 == 0)) && (r110 == 0)) && (r22 == (-4))) && r4) && (r015 == 0)), hr_, rfl, (H.pick [] (by decide) rfl)⟩⟩

end Go.Proofs.Ytclhljenjphofaa
end
section
set_option maxRecDepth 100000
set_option maxHeartbeats 16000000
namespace Go.Proofs.Ytclhljenjphofaa
open Go Go.Nm
def m_nilometerkit_Copy_level_Line (l : List Line) : M (List Line) :=
  M.grd (decide ((([] : List Line).length + l.length) * 40 <= 140737488355328)) <|
  M.pure l
theorem nilometerkit_Copy_level_Line_ok {R : List Chunk} {C_l : Cells} {v_l : Value} (l : List Line) (hC_l : Reads R C_l) (hs_l : Sl C_l v_l l) {r : (List Line)} (hM : (m_nilometerkit_Copy_level_Line l).Ends r) (w : World) (H : St w w [] R) : Ret Try.prog 55 #[v_l] w fun v w' => ∃ (y0 : List Line) (u0 : Value), y0 = r /\ v = u0 /\ St w w' [cOwn (α := Line) 34 u0 y0] R := by
 refine ret_of_W Try.func55 rfl rfl rfl ?_
 refine W.seq ?_
 refine W.region rfl ?_
 refine s_val (x_as (v := .slice none 0 0) rfl) ?_
 refine s_nil ?_
 refine W.seq ?_
 refine W.region rfl ?_
 refine s_val (x_as (v := .slice none 0 0) rfl) ?_
 refine s_nil ?_
 refine W.seq ?_
 refine W.region rfl ?_
 refine s_val (x_mv (v := .slice none 0 0) rfl) ?_
 refine s_val (x_mv (v := v_l) rfl) ?_
 replace H : St w w [cOwn (α := Line) 34 (.slice none 0 0) ([])] R := H.nilOwn (α := Line) 34
 obtain ⟨sd1z, hM⟩ := M.e_grd hM
 simp only [Bool.and_eq_true, decide_eq_true_eq] at sd1z
 refine t_app (α := Line) (k := 0) (l := []) (l2 := l) (l' := l) (vy := v_l) T23 rfl H rfl rfl rfl hs_l (hC_l.at H) (List.nil_append _) (by first | omega | (simp only [List.length_nil] at *; omega)) ?_
 intro v2z w3z H
 replace H : St w w3z [cOwn (α := Line) 34 v2z l] R := H
 refine s_val (x_as (v := v2z) rfl) ?_
 refine s_nil ?_
 refine W.ret ?_
 have hr_ := M.e_pure hM
 exact ⟨_, resE_tmp rfl, ⟨l, v2z, hr_, rfl, H⟩⟩

def m_nilometerlaw01_CopyNet (n_Marks : Int) (n_Lines : List Line) : M (Int × (List Line)) :=
  M.bind (m_nilometerkit_Copy_level_Line n_Lines) fun r2 =>
  M.pure (n_Marks, r2)
theorem nilometerlaw01_CopyNet_ok {R : List Chunk} {C_n_Lines : Cells} {v_n_Lines : Value} (n_Marks : Int) (n_Lines : List Line) (hC_n_Lines : Reads R C_n_Lines) (hs_n_Lines : Sl C_n_Lines v_n_Lines n_Lines) {r : (Int × (List Line))} (hM : (m_nilometerlaw01_CopyNet n_Marks n_Lines).Ends r) (w : World) (H : St w w [] R) : Ret Try.prog 15 #[.agg #[I n_Marks, v_n_Lines]] w fun v w' => ∃ (y0 : Int) (y1 : List Line) (u0 : Value), (y0, y1) = r /\ v = .agg #[I y0, u0] /\ St w w' [cOwn (α := Line) 34 u0 y1] R := by
 refine ret_of_W Try.func15 rfl rfl rfl ?_
 refine W.seq ?_
 refine W.region rfl ?_
 refine t_box (v := .agg #[I n_Marks, v_n_Lines]) (cs := [I n_Marks, v_n_Lines]) H rfl rfl ?_
 intro b_1 w1z H
 refine t_alloc (cs := [I 0, .slice none 0 0]) H Al25 rfl ?_
 intro b_2 w2z H
 refine s_nil ?_
 refine W.seq ?_
 refine W.draw (fun W => St w W [cBlk b_1 [I n_Marks, v_n_Lines] 25] R) [(0, true), (1, true), (2, true), (3, true), (4, false), (5, true), (6, false)] mixed (by decide +kernel) rfl ?_
 intro w3z hx_
 replace H : St w w3z [cBlk b_2 [I 0, .slice none 0 0] 25, cBlk b_1 [I n_Marks, v_n_Lines] 25] R := H.ext hx_
 clear hx_
 refine ⟨(H.pick [1] (by decide) rfl), ?_⟩
 refine d_q rfl (fun w' H => x_fa (a := .pointer (some ⟨b_1, 0, none⟩)) (v := .pointer (some ⟨b_1, 0, none⟩)) rfl (fa_blk (o := 0) Fd25_0 Sz3)) ?_
 refine d_q rfl (fun w' H => x_ld (p := .pointer (some ⟨b_1, 0, none⟩)) (v := I n_Marks) rfl (ldb_sc Sc3 (H.blk (k := 0) rfl) rfl)) ?_
 refine d_q rfl (fun w' H => x_fa (a := .pointer (some ⟨b_1, 0, none⟩)) (v := .pointer (some ⟨b_1, 1, none⟩)) rfl (fa_blk (o := 0) Fd25_1 Sz23)) ?_
 refine d_q rfl (fun w' H => x_ld (p := .pointer (some ⟨b_1, 1, none⟩)) (v := v_n_Lines) rfl (ldb_sc Sc23 (H.blk (k := 0) rfl) rfl)) ?_
 refine d_l rfl ?_
 obtain ⟨r5z, hx4z, hM⟩ := M.e_bind hM
 refine s_call cf55 [v_n_Lines] rfl (nilometerkit_Copy_level_Line_ok n_Lines (hC_n_Lines.app _) hs_n_Lines hx4z _ (St.give (T := [cBlk b_2 [I 0, .slice none 0 0] 25, cBlk b_1 [I n_Marks, v_n_Lines] 25]) H rfl)) ?_
 rintro vq w6z ⟨r2, u0_3, hr7z, hvq, H2_⟩
 subst hr7z
 subst vq
 try dsimp only at hM
 replace H : St w w6z [cOwn (α := Line) 34 u0_3 r2, cBlk b_2 [I 0, .slice none 0 0] 25, cBlk b_1 [I n_Marks, v_n_Lines] 25] R := H.back H2_ rfl
 clear H2_
 have hvc_q8z := Sl.cells (ownSl (H.get (k := 0) rfl))
 have hvo_q8z := Sl.oc (ownSl (H.get (k := 0) rfl))
 refine s_nil ⟨(H.pick [2] (by decide) rfl), ?_⟩
 refine d_q rfl (fun w' H => x_bld (ps := [(0, I n_Marks), (1, u0_3)]) (zs := [I 0, .slice none 0 0]) (L' := [I n_Marks, u0_3]) rfl Try.underlying25 Al25 rfl (Bd25 Try.underlying25) (.cons (cs := [I n_Marks]) rfl rfl rfl rfl rfl <| .cons (cs := [u0_3]) hvc_q8z rfl rfl rfl rfl <| .nil)) ?_
 refine d_l rfl ?_
 refine t_st (k := 1) (b := b_2) (off := 0) (cs := [I 0, .slice none 0 0]) (vs := [I n_Marks, u0_3]) (cs' := [I n_Marks, u0_3]) (v := .agg #[I n_Marks, u0_3]) (L' := [cOwn (α := Line) 34 u0_3 r2, cBlk b_2 [I n_Marks, u0_3] 25, cBlk b_1 [I n_Marks, v_n_Lines] 25]) H rfl rfl rfl Sz25 rfl rfl rfl (by simp only [List.all_cons, List.all_nil, Bool.true_and, Bool.and_true, Sl.oc (ownSl (H.get (k := 0) rfl))]; try rfl) rfl rfl ?_
 intro w9z H
 refine s_nil ⟨(H.pick [2] (by decide) rfl), ?_⟩
 refine d_nil ?_
 refine W.ret ?_
 have hb10z := (H.blk (k := 1) rfl)
 have hr_ := M.e_pure hM
 exact ⟨_, (resE_of1 (v := .agg #[I n_Marks, u0_3]) rfl (.cell (v := .agg #[I n_Marks, u0_3]) rfl (run_loadVar_ag (ds := [I n_Marks, u0_3]) Ag25 Sz25 hb10z rfl rfl) <| .nil)), ⟨n_Marks, r2, u0_3, hr_, rfl, (H.pick [0] (by decide) rfl)⟩⟩

end Go.Proofs.Ytclhljenjphofaa
end
namespace Go.Nm
open Go
section
variable {P : Program} {ops : Array Oper} {md : Region.Mode} {C : World -> Prop} {z : Nat}
def wpAnyZ (P : Program) (md : Region.Mode) (ops : Array Oper) (C : World -> Prop) (z : Nat) (Q : Act -> World -> Prop) : Nat -> Array Bool -> Act -> World -> Prop
  | 0, listed, a, w => Region.ready md ops listed = [] /\ Q a w
  | fuel + 1, listed, a, w =>
    (Region.ready md ops listed = [] -> Q a w) ∧
    ∀ i ∈ Region.ready md ops listed, lOp P ops i (fun a' w' => (i ≠ z -> C w') /\ wpAnyZ P md ops C z Q fuel (listed.setIfInBounds i true) a' w') a w
theorem wpAny_of_Z {r : Option Nat} {Q : Act -> World -> Prop} {Q' : Exit -> Act -> World -> Prop} (hQ : ∀ a w, Q a w -> Q' .normal a w) : ∀ (fuel : Nat) (listed : Array Bool) (a : Act) (w : World),
    wpAnyZ P md ops C z Q fuel listed a w -> wpAnyIn (FR r) 0 P md ops Q' fuel listed a w
  | 0, _, _, _, h => ⟨h.1, hQ _ _ h.2⟩
  | fuel + 1, _, _, _, h => ⟨fun h0 => hQ _ _ (h.1 h0), fun i hi => lOp_wpOp (lOp_mono (fun a' w' hh => wpAny_of_Z hQ fuel _ a' w' hh.2) (h.2 i hi))⟩
def bindsOn (md : Region.Mode) (ops : Array Oper) (z i : Nat) : Bool := match ops[z]? with
  | some o => o.after.toList.any fun e => Region.binds md e && (e.on == i)
  | none => false
theorem wpAnyZ_first {Q : Act -> World -> Prop} {i : Nat} {oi : Oper} {v : Value} (hi : ops[i]? = some oi) (hz : i ≠ z) (hb : bindsOn md ops z i = true) (hsel : ∀ (j : Nat) (o : Oper) cs b, ops[j]? = some o -> o.op ≠ .select cs b) :
    ∀ (fuel : Nat) (listed : Array Bool) (a : Act) (w : World), C w →
      (∀ j oj, ops[j]? = some oj -> j ≠ i -> listed.getD j true = false -> (∀ e ∈ oj.after, Region.binds md e = true -> e.on ≠ i) -> oi.apart ops oj = true) →
      i ∈ Region.ready md ops listed -> YV P ops C oi v a →
      wpAnyZ P md ops C z Q fuel (listed.setIfInBounds i true) (a.put oi.dst v) w -> wpAnyZ P md ops C z Q (fuel + 1) listed a w := by
  intro fuel
  induction fuel with
  | zero =>
    intro listed a w hC _ hr hy H
    refine ⟨fun h => (by rw [h] at hr; cases hr), fun j hj => ?_⟩
    by_cases hji : j = i
    · subst hji; exact hy.lOp hi hC ⟨fun _ => hC, H⟩
    · have := ready_mono hj hji
      rw [H.1] at this
      cases this
  | succ fuel ih =>
    intro listed a w hC hfree hr hy H
    refine ⟨fun h => (by rw [h] at hr; cases hr), fun j hj => ?_⟩
    by_cases hji : j = i
    · subst hji; exact hy.lOp hi hC ⟨fun _ => hC, H⟩
    · have h1 := H.2 j (ready_mono hj hji)
      obtain ⟨hjun, oj, hoj, hall⟩ := mem_ready.1 hj
      have hnot : ∀ e ∈ oj.after, Region.binds md e = true -> e.on ≠ i := fun e he hb heq => by
        have h1 := hall e he hb
        have h0 := (mem_ready.1 hr).1
        rw [heq] at h1
        rcases Nat.lt_or_ge i listed.size with h' | h'
        · simp [h'] at h0 h1; rw [h0] at h1; cases h1
        · simp [Array.getElem?_eq_none h'] at h1
      have hjz : j ≠ z := fun e => by
        subst e
        unfold bindsOn at hb
        simp only [hoj] at hb
        obtain ⟨e, he, h2⟩ := List.any_eq_true.1 hb
        rw [Bool.and_eq_true, beq_iff_eq] at h2
        exact hnot e (by simpa using he) h2.1 h2.2
      have h2 := lOp_put hoj (hfree j oj hoj hji hjun hnot) (fun cs b => hsel i oi cs b hi) (fun cs b => hsel j oj cs b hoj) hy h1
      have hfree' : ∀ k ok, ops[k]? = some ok -> k ≠ i -> (listed.setIfInBounds j true).getD k true = false →
          (∀ e ∈ ok.after, Region.binds md e = true -> e.on ≠ i) -> oi.apart ops ok = true := fun k ok hk hki hun hno => by
        refine hfree k ok hk hki ?_ hno
        by_cases hjk : j = k
        · subst hjk; exact hjun
        · rw [getD_set_ne true hjk] at hun; exact hun
      refine lOp_mono (fun a' w' h3 => ⟨fun _ => h3.2.1 hjz, ih (listed.setIfInBounds j true) a' w' (h3.2.1 hjz) hfree' (ready_mono hr (Ne.symm hji)) h3.1 ?_⟩) h2
      rw [Array.setIfInBounds_comm _ _ hji]
      exact h3.2.2
def canonZ (md : Region.Mode) (ops : Array Oper) (z : Nat) : List Nat -> Array Bool -> Bool
  | [], listed => (Region.ready md ops listed == [z]) && (Region.ready md ops (listed.setIfInBounds z true)).isEmpty
  | k :: r, listed => (Region.ready md ops listed).contains k && Region.free md ops listed k && (k != z) && bindsOn md ops z k && canonZ md ops z r (listed.setIfInBounds k true)
def runZ (P : Program) (ops : Array Oper) (C : World -> Prop) (z : Nat) (Q : Act -> World -> Prop) : List Nat -> Act -> World -> Prop
  | [], a, w => lOp P ops z Q a w
  | k :: r, a, w => ∃ o v, ops[k]? = some o /\ YV P ops C o v a /\ runZ P ops C z Q r (a.put o.dst v) w
theorem wpAnyZ_canon {Q : Act -> World -> Prop} (hs : Region.noSelect ops = true) : ∀ (l : List Nat) (listed : Array Bool) (a : Act) (w : World), C w →
    canonZ md ops z l listed = true -> runZ P ops C z Q l a w -> wpAnyZ P md ops C z Q (l.length + 1) listed a w
  | [], listed, a, w, _, hB, h => by
    simp only [canonZ, Bool.and_eq_true, beq_iff_eq] at hB
    obtain ⟨hr, he⟩ := hB
    refine ⟨fun h0 => by rw [hr] at h0; simp at h0, fun i hi => ?_⟩
    rw [hr] at hi
    obtain rfl : i = z := by simpa using hi
    exact lOp_mono (fun a' w' hh => ⟨fun h => absurd rfl h, by simpa using he, hh⟩) h
  | k :: r, listed, a, w, hC, hB, h => by
    simp only [canonZ, Bool.and_eq_true, bne_iff_ne, ne_eq] at hB
    obtain ⟨⟨⟨⟨hr, hf⟩, hz⟩, hb⟩, hB'⟩ := hB
    obtain ⟨o, v, h0, hy, hK⟩ := h
    exact wpAnyZ_first h0 hz hb (Region.noSelect_spec hs) (r.length + 1) listed a w hC (Region.free_spec h0 hf) (by simpa using hr) hy (wpAnyZ_canon hs r _ _ _ hC hB' hK)
end
def SLZ (P : Program) (all : List Oper) (C : World -> Prop) (z : Nat) (Q : Post) : List Nat -> Env -> World -> Prop
  | [], σ, w => ∃ o, all[z]? = some o /\ SL P all (loudQ (fun _ => True) (Q .normal)) [o] σ w
  | k :: r, σ, w => ∃ o v, all[k]? = some o /\ (bif wantedE all o σ then ∀ w', C w' -> (execOp (ev σ) o).run P w' = .ok (.value v) w' else v = undef) /\ SLZ P all C z Q r (updo σ o.dst v) w
theorem SLZ_runZ {P : Program} {ds : List Deferred} {n : Nat} {C : World -> Prop} {z : Nat} {Q : Post} (all : List Oper) (hok : ∀ o ∈ all, ∀ d, o.dst = some d -> d < n) : ∀ (l : List Nat) (σ : Env) (w : World) (a : Act), Fr ds n σ a →
    SLZ P all C z Q l σ w -> runZ P all.toArray C z (fun a' w' => ∃ σ', Fr ds n σ' a' /\ Q .normal σ' w') l a w
  | [], σ, w, a, ha, ⟨o, ho, h⟩ => lOp_mono (fun _ _ hh => hh.2) (SL_lOp (K' := fun a' w' => ∃ σ', Fr ds n σ' a' /\ Q .normal σ' w') all hok (fun σ' w' a' ha' h' => ⟨σ', ha', h'⟩) ho ha h)
  | k :: r, σ, w, a, ha, ⟨o, v, ho, hv, hK⟩ => by
    have hmem : o ∈ all := List.mem_of_getElem? ho
    refine ⟨o, v, by simpa using ho, ?_, SLZ_runZ all hok r _ _ _ (ha.puto (hok o hmem) v) hK⟩
    unfold YV
    rw [wanted_eq ha all hok, ha.eval]
    cases hw : wantedE all o σ with
    | true => rw [hw] at hv; exact .inl ⟨rfl, hv⟩
    | false => rw [hw] at hv; exact .inr ⟨rfl, hv⟩
theorem W.drawZ {r : Option Nat} {P : Program} {n : Nat} {Q : Post} {σ : Env} {w : World} {id : Nat} {l : List Oper} (C : World -> Prop) (order : List Nat) (z : Nat) (hm : P.follows .mixedOrders = true)
    (hB : (Region.noSelect l.toArray && Nat.beq (order.length + 1) l.length && canonZ .any l.toArray z order (Array.replicate l.length false)) = true)
    (hok : okDst n l = true) (h : ∀ w1, Ext w w1 -> C w1 /\ SLZ P l C z Q order σ w1) : WR r P n (.region id l.toArray true) Q σ w := by
  intro ds a ha
  simp only [Bool.and_eq_true] at hB
  obtain ⟨⟨hs, hl⟩, hB⟩ := hB
  have hl' := Nat.eq_of_beq_eq_true hl
  obtain ⟨hC, hS⟩ := h w.drew (.drew w)
  refine wpIn_region_any hm (wpAny_of_Z (C := C) (z := z) (Q := fun a' w' => ∃ σ', Fr ds n σ' a' /\ Q .normal σ' w') (fun _ _ h => h) _ _ _ _ ?_)
  have := wpAnyZ_canon (P := P) (md := .any) (Q := fun a' w' => ∃ σ', Fr ds n σ' a' /\ Q .normal σ' w') hs order (Array.replicate l.length false) a w.drew hC hB (SLZ_runZ l (okDst_spec hok) order σ w.drew a ha hS)
  rw [hl'] at this
  simpa using this
section
variable {P : Program} {all : List Oper} {C : World -> Prop} {z : Nat} {Q : Post} {r : List Nat} {σ : Env} {w : World}
theorem z_q {k d : Nat} {op : Op} {ty : TypeId} {pos : String} {af : Array Edge} {v : Value} (ho : all[k]? = some ⟨some d, op, ty, pos, af, none⟩)
    (h : ∀ w', C w' -> (execOp (ev σ) ⟨some d, op, ty, pos, af, none⟩).run P w' = .ok (.value v) w') (hk : SLZ P all C z Q r (upd σ d v) w) : SLZ P all C z Q (k :: r) σ w :=
  ⟨_, v, ho, h, hk⟩
theorem z_l {o : Oper} (ho : all[z]? = some o) (h : SL P all (loudQ (fun _ => True) (Q .normal)) [o] σ w) : SLZ P all C z Q [] σ w := ⟨o, ho, h⟩
end
end Go.Nm
section
set_option maxRecDepth 100000
set_option maxHeartbeats 16000000
namespace Go.Proofs.Ytclhljenjphofaa
open Go Go.Nm
def m_nilometerref01_outside (n : Int) (a : Int) (b : Int) : M Bool :=
  M.pure ((decide (n < a)) || (decide (b < n)))
theorem nilometerref01_outside_ok {R : List Chunk}  (n : Int) (a : Int) (b : Int)  {r : Bool} (hM : (m_nilometerref01_outside n a b).Ends r) (w : World) (H : St w w [] R) : Ret Try.prog 69 #[I n, I a, I b] w fun v w' => ∃ (y0 : Bool), y0 = r /\ v = B y0 /\ St w w' [] R := by
 refine ret_of_W Try.func69 rfl rfl rfl ?_
 refine W.seq ?_
 refine W.region rfl ?_
 refine s_val (x_as (v := B false) rfl) ?_
 refine s_nil ?_
 refine W.seq ?_
 refine W.region rfl ?_
 refine s_val (x_mv (v := I n) rfl) ?_
 refine s_val (x_mv (v := I a) rfl) ?_
 refine s_val (x_cmp (kd := .i64) (a := n) (b := a) (r := decide (n < a)) rfl rfl rfl) ?_
 refine s_val (x_mv (v := B (decide (n < a))) rfl) ?_
 refine g_val (!(decide (n < a))) (gy_f rfl) (fun hg => x_mv (v := I n) rfl) ?_
 refine g_val (!(decide (n < a))) (gy_f rfl) (fun hg => x_mv (v := I b) rfl) ?_
 refine g_val (!(decide (n < a))) (gy_f rfl) (fun hg => x_cmp (kd := .i64) (a := n) (b := b) (r := decide (b < n)) (gd_of (c := !(decide (n < a))) hg (I n)) (gd_of (c := !(decide (n < a))) hg (I b)) rfl) ?_
 refine s_val (x_por (b := decide (n < a)) (r := decide (b < n)) rfl rfl (fun hb => gd_of (c := !(decide (n < a))) (by first | exact hb | (rw [hb]; rfl) | simp_all) (B (decide (b < n))))) ?_
 refine s_val (x_as (v := B ((decide (n < a)) || (decide (b < n)))) rfl) ?_
 refine s_nil ?_
 refine W.ret ?_
 have hr_ := M.e_pure hM
 exact ⟨_, resE_tmp rfl, ⟨((decide (n < a)) || (decide (b < n))), hr_, rfl, H⟩⟩

def m_nilometerref01_Check_b0 (n_Marks : Int) (n_Lines : List Line) : Nat -> M (Nat ⊕ (Unit ⊕ Unit)) := fun i =>
  bif decide ((i : Int) < (n_Lines.length : Int)) then (
  M.grd (decide ((i : Int) < (n_Lines.length : Int))) <|
  M.grd (decide ((-9223372036854775808 : Int) <= (n_Marks - 1)) && decide ((n_Marks - 1) <= (9223372036854775807 : Int))) <|
  M.bind (m_nilometerref01_outside ((n_Lines.getD i default).src) 0 (n_Marks - 1)) fun r2 =>
  M.bind (M.opt (!r2) (m_nilometerref01_outside ((n_Lines.getD i default).dst) 0 (n_Marks - 1)) false) fun r3 =>
  M.bind (M.opt (!((r2 || r3) || (((n_Lines.getD i default).src) == ((n_Lines.getD i default).dst)))) (m_nilometerref01_outside ((n_Lines.getD i default).day) 0 40000) false) fun r4 =>
  M.bind (M.opt (!(((r2 || r3) || (((n_Lines.getD i default).src) == ((n_Lines.getD i default).dst))) || r4)) (m_nilometerref01_outside ((n_Lines.getD i default).rise) (-1000000) 1000000) false) fun r5 =>
  M.bind (M.opt (!((((r2 || r3) || (((n_Lines.getD i default).src) == ((n_Lines.getD i default).dst))) || r4) || r5)) (m_nilometerref01_outside ((n_Lines.getD i default).err) 0 10000) false) fun r6 =>
  bif (((((r2 || r3) || (((n_Lines.getD i default).src) == ((n_Lines.getD i default).dst))) || r4) || r5) || r6) then (
  M.pure (.inr (.inl ())))
  else (
  M.pure (.inl (i + 1))))
  else (
  M.pure (.inr (.inr ())))
def m_nilometerref01_Check (n_Marks : Int) (n_Lines : List Line) : M Int :=
  bif (((decide (n_Marks < 1)) || (decide (12 < n_Marks))) || (decide (30 < (n_Lines.length : Int)))) then (
  M.pure 3)
  else (
  M.bind (M.iter (m_nilometerref01_Check_b0 n_Marks n_Lines) 0) fun x_ => match x_ with
  | (.inl (_ : Unit)) => (
  M.pure 20)
  | (.inr (_ : Unit)) => (
  M.pure 0))
theorem nilometerref01_Check_ok {R : List Chunk} {C_n_Lines : Cells} {v_n_Lines : Value} (n_Marks : Int) (n_Lines : List Line) (hC_n_Lines : Reads R C_n_Lines) (hs_n_Lines : Sl C_n_Lines v_n_Lines n_Lines) {r : Int} (hM : (m_nilometerref01_Check n_Marks n_Lines).Ends r) (w : World) (H : St w w [] R) : Ret Try.prog 38 #[.agg #[I n_Marks, v_n_Lines]] w fun v w' => ∃ (y0 : Int), y0 = r /\ v = I y0 /\ St w w' [] R := by
 refine ret_of_W Try.func38 rfl rfl rfl ?_
 refine W.seq ?_
 refine W.region rfl ?_
 refine t_box (v := .agg #[I n_Marks, v_n_Lines]) (cs := [I n_Marks, v_n_Lines]) H rfl rfl ?_
 intro b_1 w1z H
 refine s_val (x_as (v := I 0) rfl) ?_
 refine s_nil ?_
 refine W.seq ?_
 refine W.seq ?_
 refine W.region rfl ?_
 refine s_val (x_fa (a := .pointer (some ⟨b_1, 0, none⟩)) (v := .pointer (some ⟨b_1, 0, none⟩)) rfl (fa_blk (o := 0) Fd64_0 Sz3)) ?_
 refine s_val (x_ld (p := .pointer (some ⟨b_1, 0, none⟩)) (v := I n_Marks) rfl (ldb_sc Sc3 (H.blk (k := 0) rfl) rfl)) ?_
 refine s_val (x_cmp (kd := .i64) (a := n_Marks) (b := 1) (r := decide (n_Marks < 1)) rfl rfl rfl) ?_
 refine s_val (x_mv (v := B (decide (n_Marks < 1))) rfl) ?_
 refine g_val (!(decide (n_Marks < 1))) (gy_f rfl) (fun hg => x_fa (a := .pointer (some ⟨b_1, 0, none⟩)) (v := .pointer (some ⟨b_1, 0, none⟩)) rfl (fa_blk (o := 0) Fd64_0 Sz3)) ?_
 refine g_val (!(decide (n_Marks < 1))) (gy_f rfl) (fun hg => x_ld (p := .pointer (some ⟨b_1, 0, none⟩)) (v := I n_Marks) (gd_of (c := !(decide (n_Marks < 1))) hg (.pointer (some ⟨b_1, 0, none⟩))) (ldb_sc Sc3 (H.blk (k := 0) rfl) rfl)) ?_
 refine g_val (!(decide (n_Marks < 1))) (gy_f rfl) (fun hg => x_cmp (kd := .i64) (a := n_Marks) (b := 12) (r := decide (12 < n_Marks)) (gd_of (c := !(decide (n_Marks < 1))) hg (I n_Marks)) rfl rfl) ?_
 refine s_val (x_por (b := decide (n_Marks < 1)) (r := decide (12 < n_Marks)) rfl rfl (fun hb => gd_of (c := !(decide (n_Marks < 1))) (by first | exact hb | (rw [hb]; rfl) | simp_all) (B (decide (12 < n_Marks))))) ?_
 refine s_val (x_mv (v := B ((decide (n_Marks < 1)) || (decide (12 < n_Marks)))) rfl) ?_
 refine g_val (!((decide (n_Marks < 1)) || (decide (12 < n_Marks)))) (gy_f rfl) (fun hg => x_fa (a := .pointer (some ⟨b_1, 0, none⟩)) (v := .pointer (some ⟨b_1, 1, none⟩)) rfl (fa_blk (o := 0) Fd64_1 Sz62)) ?_
 refine g_val (!((decide (n_Marks < 1)) || (decide (12 < n_Marks)))) (gy_f rfl) (fun hg => x_ld (p := .pointer (some ⟨b_1, 1, none⟩)) (v := v_n_Lines) (gd_of (c := !((decide (n_Marks < 1)) || (decide (12 < n_Marks)))) hg (.pointer (some ⟨b_1, 1, none⟩))) (ldb_sc Sc62 (H.blk (k := 0) rfl) rfl)) ?_
 refine g_val (!((decide (n_Marks < 1)) || (decide (12 < n_Marks)))) (gy_f rfl) (fun hg => x_lenS T62.und (gd_of (c := !((decide (n_Marks < 1)) || (decide (12 < n_Marks)))) hg (v_n_Lines)) hs_n_Lines) ?_
 refine g_val (!((decide (n_Marks < 1)) || (decide (12 < n_Marks)))) (gy_f rfl) (fun hg => x_cmp (kd := .i64) (a := (n_Lines.length : Int)) (b := 30) (r := decide (30 < (n_Lines.length : Int))) (gd_of (c := !((decide (n_Marks < 1)) || (decide (12 < n_Marks)))) hg (I (n_Lines.length : Int))) rfl rfl) ?_
 refine s_val (x_por (b := ((decide (n_Marks < 1)) || (decide (12 < n_Marks)))) (r := decide (30 < (n_Lines.length : Int))) rfl rfl (fun hb => gd_of (c := !((decide (n_Marks < 1)) || (decide (12 < n_Marks)))) (by first | exact hb | (rw [hb]; rfl) | simp_all) (B (decide (30 < (n_Lines.length : Int)))))) ?_
 refine s_nil ?_
 refine W.cond (((decide (n_Marks < 1)) || (decide (12 < n_Marks))) || (decide (30 < (n_Lines.length : Int)))) rfl (fun c3z => ?_) (fun c3z => ?_)
 ·replace hM := M.e_t hM c3z
  refine W.seq ?_
  refine W.region rfl ?_
  refine s_val (x_as (v := I 3) rfl) ?_
  refine s_nil ?_
  refine W.ret ?_
  have hr_ := M.e_pure hM
  exact ⟨_, resE_tmp rfl, ⟨3, hr_, rfl, (H.pick [] (by decide) rfl)⟩⟩
 ·replace hM := M.e_f hM c3z
  refine W.skip ?_
  refine W.seq ?_
  refine W.seq ?_
  refine W.region rfl ?_
  refine s_val (x_as (v := I 0) rfl) ?_
  refine s_nil ?_
  refine W.block ?_
  obtain ⟨ex4z, hi5z, hk6z⟩ := M.e_bind hM
  obtain ⟨m0_, hi5z⟩ := M.e_iter hi5z
  refine W.loop (fun m σ W => ∃ (i : Nat) (ρ : Env), σ = upds ρ [(1, .pointer (some ⟨b_1, 0, none⟩)), (3, I (i : Int))] /\ M.iterN (m_nilometerref01_Check_b0 n_Marks n_Lines) m i = some ex4z /\ St w W [cBlk b_1 [I n_Marks, v_n_Lines] 64] R) ?_ ?_
  ·exact ⟨_, 0, _, upds_of _ _ ⟨rfl, rfl, trivial⟩, hi5z, H⟩
  ·rintro m9z σ w7z ⟨i, ρ, rfl, hI8z, H⟩
   obtain ⟨m10z, lt11z, x12z, hM, hN13z⟩ := M.e_iterN hI8z
   simp only [m_nilometerref01_Check_b0] at hM
   clear hI8z
   refine W.seq ?_
   refine W.seq ?_
   refine W.region rfl ?_
   refine s_val (x_mv (v := I (i : Int)) rfl) ?_
   refine s_val (x_fa (a := .pointer (some ⟨b_1, 0, none⟩)) (v := .pointer (some ⟨b_1, 1, none⟩)) rfl (fa_blk (o := 0) Fd64_1 Sz62)) ?_
   refine s_val (x_ld (p := .pointer (some ⟨b_1, 1, none⟩)) (v := v_n_Lines) rfl (ldb_sc Sc62 (H.blk (k := 0) rfl) rfl)) ?_
   have hl14z := (hs_n_Lines).len_le
   refine s_val (x_lenS T62.und rfl hs_n_Lines) ?_
   refine s_val (x_cmp (kd := .i64) (a := (i : Int)) (b := (n_Lines.length : Int)) (r := decide ((i : Int) < (n_Lines.length : Int))) rfl rfl rfl) ?_
   refine s_nil ?_
   refine W.cond (decide ((i : Int) < (n_Lines.length : Int))) rfl (fun c15z => ?_) (fun c15z => ?_)
   ·replace hM := M.e_t hM c15z
    simp only [decide_eq_true_eq, decide_eq_false_iff_not, beq_iff_eq, bne_iff_ne, beq_eq_false_iff_ne, bne_eq_false_iff_eq, ne_eq, Decidable.not_not] at c15z
    refine W.skip ?_
    refine W.seq ?_
    refine W.block ?_
    refine W.seq ?_
    refine W.region rfl ?_
    refine s_val (x_fa (a := .pointer (some ⟨b_1, 0, none⟩)) (v := .pointer (some ⟨b_1, 1, none⟩)) rfl (fa_blk (o := 0) Fd64_1 Sz62)) ?_
    refine s_val (x_ld (p := .pointer (some ⟨b_1, 1, none⟩)) (v := v_n_Lines) rfl (ldb_sc Sc62 (H.blk (k := 0) rfl) rfl)) ?_
    refine s_val (x_mv (v := I (i : Int)) rfl) ?_
    obtain ⟨sd16z, hM⟩ := M.e_grd hM
    simp only [Bool.and_eq_true, decide_eq_true_eq] at sd16z
    refine s_val (x_ix (a := v_n_Lines) (b := I (i : Int)) (v := vat v_n_Lines 5 (Int.toNat (i : Int))) rfl rfl (Sl.ix (α := Line) T62.und T62.size hs_n_Lines (by omega) (by omega))) ?_
    refine s_val (x_ld (p := vat v_n_Lines 5 (Int.toNat (i : Int))) (v := .agg #[I ((n_Lines.getD i default).src), I ((n_Lines.getD i default).dst), I ((n_Lines.getD i default).day), I ((n_Lines.getD i default).rise), I ((n_Lines.getD i default).err)]) rfl (ld_ag Ag133 Sz133 (At.mono (Line_atA hs_n_Lines (i := (i : Int)) (by omega) (by omega)) (hC_n_Lines.at H)))) ?_
    refine t_alloc (cs := [I 0, I 0, I 0, I 0, I 0]) H Al133 rfl ?_
    intro b_2 w17z H
    refine t_st (k := 0) (b := b_2) (off := 0) (cs := [I 0, I 0, I 0, I 0, I 0]) (vs := [I ((n_Lines.getD i default).src), I ((n_Lines.getD i default).dst), I ((n_Lines.getD i default).day), I ((n_Lines.getD i default).rise), I ((n_Lines.getD i default).err)]) (cs' := [I ((n_Lines.getD i default).src), I ((n_Lines.getD i default).dst), I ((n_Lines.getD i default).day), I ((n_Lines.getD i default).rise), I ((n_Lines.getD i default).err)]) (v := .agg #[I ((n_Lines.getD i default).src), I ((n_Lines.getD i default).dst), I ((n_Lines.getD i default).day), I ((n_Lines.getD i default).rise), I ((n_Lines.getD i default).err)]) (L' := [cBlk b_2 [I ((n_Lines.getD i default).src), I ((n_Lines.getD i default).dst), I ((n_Lines.getD i default).day), I ((n_Lines.getD i default).rise), I ((n_Lines.getD i default).err)] 133, cBlk b_1 [I n_Marks, v_n_Lines] 64]) H rfl rfl rfl Sz133 rfl rfl rfl rfl rfl rfl ?_
    intro w18z H
    refine s_nil ?_
    refine W.seq ?_
    refine W.region rfl ?_
    refine s_val (x_fa (a := .pointer (some ⟨b_2, 0, none⟩)) (v := .pointer (some ⟨b_2, 0, none⟩)) rfl (fa_blk (o := 0) Fd133_0 Sz3)) ?_
    refine s_val (x_ld (p := .pointer (some ⟨b_2, 0, none⟩)) (v := I ((n_Lines.getD i default).src)) rfl (ldb_sc Sc3 (H.blk (k := 0) rfl) rfl)) ?_
    refine s_val (x_fa (a := .pointer (some ⟨b_1, 0, none⟩)) (v := .pointer (some ⟨b_1, 0, none⟩)) rfl (fa_blk (o := 0) Fd64_0 Sz3)) ?_
    refine s_val (x_ld (p := .pointer (some ⟨b_1, 0, none⟩)) (v := I n_Marks) rfl (ldb_sc Sc3 (H.blk (k := 1) rfl) rfl)) ?_
    obtain ⟨sd19z, hM⟩ := M.e_grd hM
    simp only [Bool.and_eq_true, decide_eq_true_eq] at sd19z
    refine s_val (x_ari (a := n_Marks) (b := 1) (r := n_Marks - 1) rfl rfl rfl (by omega)) ?_
    obtain ⟨r21z, hx20z, hM⟩ := M.e_bind hM
    refine s_call cf69 [I ((n_Lines.getD i default).src), I 0, I (n_Marks - 1)] rfl (nilometerref01_outside_ok ((n_Lines.getD i default).src) 0 (n_Marks - 1) hx20z _ (St.give (T := [cBlk b_2 [I ((n_Lines.getD i default).src), I ((n_Lines.getD i default).dst), I ((n_Lines.getD i default).day), I ((n_Lines.getD i default).rise), I ((n_Lines.getD i default).err)] 133, cBlk b_1 [I n_Marks, v_n_Lines] 64]) H rfl)) ?_
    rintro vq w22z ⟨r2, hr23z, hvq, H2_⟩
    subst hr23z
    subst vq
    try dsimp only at hM
    replace H : St w w22z [cBlk b_2 [I ((n_Lines.getD i default).src), I ((n_Lines.getD i default).dst), I ((n_Lines.getD i default).day), I ((n_Lines.getD i default).rise), I ((n_Lines.getD i default).err)] 133, cBlk b_1 [I n_Marks, v_n_Lines] 64] R := H.back H2_ rfl
    clear H2_
    refine s_val (x_mv (v := B r2) rfl) ?_
    refine g_val (!r2) (gy_f rfl) (fun hg => x_fa (a := .pointer (some ⟨b_2, 0, none⟩)) (v := .pointer (some ⟨b_2, 1, none⟩)) rfl (fa_blk (o := 0) Fd133_1 Sz3)) ?_
    refine g_val (!r2) (gy_f rfl) (fun hg => x_ld (p := .pointer (some ⟨b_2, 1, none⟩)) (v := I ((n_Lines.getD i default).dst)) (gd_of (c := !r2) hg (.pointer (some ⟨b_2, 1, none⟩))) (ldb_sc Sc3 (H.blk (k := 0) rfl) rfl)) ?_
    refine g_val (!r2) (gy_f rfl) (fun hg => x_fa (a := .pointer (some ⟨b_1, 0, none⟩)) (v := .pointer (some ⟨b_1, 0, none⟩)) rfl (fa_blk (o := 0) Fd64_0 Sz3)) ?_
    refine g_val (!r2) (gy_f rfl) (fun hg => x_ld (p := .pointer (some ⟨b_1, 0, none⟩)) (v := I n_Marks) (gd_of (c := !r2) hg (.pointer (some ⟨b_1, 0, none⟩))) (ldb_sc Sc3 (H.blk (k := 1) rfl) rfl)) ?_
    refine g_val (!r2) (gy_f rfl) (fun hg => x_ari (a := n_Marks) (b := 1) (r := n_Marks - 1) (gd_of (c := !r2) hg (I n_Marks)) rfl rfl (by first | omega | (have hx_ := hg; simp at hx_; omega))) ?_
    obtain ⟨r3, hx24z, hM⟩ := M.e_bind hM
    refine t_gcall (!r2) (gy_f rfl) cf69 (B r3) (fun _ => [I ((n_Lines.getD i default).dst), I 0, I (n_Marks - 1)]) (fun hg => lst3 (gd_of (c := !r2) hg (I ((n_Lines.getD i default).dst))) rfl (gd_of (c := !r2) hg (I (n_Marks - 1)))) H (fun hg => (nilometerref01_outside_ok ((n_Lines.getD i default).dst) 0 (n_Marks - 1) (M.e_opt hx24z hg) _ (H.give (A := []) rfl)).mono fun v_ w_ ⟨y_, hr_, hv_, H_⟩ => by subst hr_; exact ⟨hv_, H.via H_⟩) ?_
    intro w25z H
    refine s_val (x_por (b := r2) (r := r3) rfl rfl (fun hb => gd_of (c := !r2) (by first | exact hb | (rw [hb]; rfl) | simp_all) (B r3))) ?_
    refine s_val (x_mv (v := B (r2 || r3)) rfl) ?_
    refine g_val (!(r2 || r3)) (gy_f rfl) (fun hg => x_fa (a := .pointer (some ⟨b_2, 0, none⟩)) (v := .pointer (some ⟨b_2, 0, none⟩)) rfl (fa_blk (o := 0) Fd133_0 Sz3)) ?_
    refine g_val (!(r2 || r3)) (gy_f rfl) (fun hg => x_ld (p := .pointer (some ⟨b_2, 0, none⟩)) (v := I ((n_Lines.getD i default).src)) (gd_of (c := !(r2 || r3)) hg (.pointer (some ⟨b_2, 0, none⟩))) (ldb_sc Sc3 (H.blk (k := 0) rfl) rfl)) ?_
    refine g_val (!(r2 || r3)) (gy_f rfl) (fun hg => x_fa (a := .pointer (some ⟨b_2, 0, none⟩)) (v := .pointer (some ⟨b_2, 1, none⟩)) rfl (fa_blk (o := 0) Fd133_1 Sz3)) ?_
    refine g_val (!(r2 || r3)) (gy_f rfl) (fun hg => x_ld (p := .pointer (some ⟨b_2, 1, none⟩)) (v := I ((n_Lines.getD i default).dst)) (gd_of (c := !(r2 || r3)) hg (.pointer (some ⟨b_2, 1, none⟩))) (ldb_sc Sc3 (H.blk (k := 0) rfl) rfl)) ?_
    refine g_val (!(r2 || r3)) (gy_f rfl) (fun hg => x_cmp (kd := .i64) (a := (n_Lines.getD i default).src) (b := (n_Lines.getD i default).dst) (r := ((n_Lines.getD i default).src) == ((n_Lines.getD i default).dst)) (gd_of (c := !(r2 || r3)) hg (I ((n_Lines.getD i default).src))) (gd_of (c := !(r2 || r3)) hg (I ((n_Lines.getD i default).dst))) rfl) ?_
    refine s_val (x_por (b := (r2 || r3)) (r := ((n_Lines.getD i default).src) == ((n_Lines.getD i default).dst)) rfl rfl (fun hb => gd_of (c := !(r2 || r3)) (by first | exact hb | (rw [hb]; rfl) | simp_all) (B (((n_Lines.getD i default).src) == ((n_Lines.getD i default).dst))))) ?_
    refine s_val (x_mv (v := B ((r2 || r3) || (((n_Lines.getD i default).src) == ((n_Lines.getD i default).dst)))) rfl) ?_
    refine g_val (!((r2 || r3) || (((n_Lines.getD i default).src) == ((n_Lines.getD i default).dst)))) (gy_f rfl) (fun hg => x_fa (a := .pointer (some ⟨b_2, 0, none⟩)) (v := .pointer (some ⟨b_2, 2, none⟩)) rfl (fa_blk (o := 0) Fd133_2 Sz3)) ?_
    refine g_val (!((r2 || r3) || (((n_Lines.getD i default).src) == ((n_Lines.getD i default).dst)))) (gy_f rfl) (fun hg => x_ld (p := .pointer (some ⟨b_2, 2, none⟩)) (v := I ((n_Lines.getD i default).day)) (gd_of (c := !((r2 || r3) || (((n_Lines.getD i default).src) == ((n_Lines.getD i default).dst)))) hg (.pointer (some ⟨b_2, 2, none⟩))) (ldb_sc Sc3 (H.blk (k := 0) rfl) rfl)) ?_
    obtain ⟨r4, hx26z, hM⟩ := M.e_bind hM
    refine t_gcall (!((r2 || r3) || (((n_Lines.getD i default).src) == ((n_Lines.getD i default).dst)))) (gy_f rfl) cf69 (B r4) (fun _ => [I ((n_Lines.getD i default).day), I 0, I 40000]) (fun hg => lst3 (gd_of (c := !((r2 || r3) || (((n_Lines.getD i default).src) == ((n_Lines.getD i default).dst)))) hg (I ((n_Lines.getD i default).day))) rfl rfl) H (fun hg => (nilometerref01_outside_ok ((n_Lines.getD i default).day) 0 40000 (M.e_opt hx26z hg) _ (H.give (A := []) rfl)).mono fun v_ w_ ⟨y_, hr_, hv_, H_⟩ => by subst hr_; exact ⟨hv_, H.via H_⟩) ?_
    intro w27z H
    refine s_val (x_por (b := ((r2 || r3) || (((n_Lines.getD i default).src) == ((n_Lines.getD i default).dst)))) (r := r4) rfl rfl (fun hb => gd_of (c := !((r2 || r3) || (((n_Lines.getD i default).src) == ((n_Lines.getD i default).dst)))) (by first | exact hb | (rw [hb]; rfl) | simp_all) (B r4))) ?_
    refine s_val (x_mv (v := B (((r2 || r3) || (((n_Lines.getD i default).src) == ((n_Lines.getD i default).dst))) || r4)) rfl) ?_
    refine g_val (!(((r2 || r3) || (((n_Lines.getD i default).src) == ((n_Lines.getD i default).dst))) || r4)) (gy_f rfl) (fun hg => x_fa (a := .pointer (some ⟨b_2, 0, none⟩)) (v := .pointer (some ⟨b_2, 3, none⟩)) rfl (fa_blk (o := 0) Fd133_3 Sz3)) ?_
    refine g_val (!(((r2 || r3) || (((n_Lines.getD i default).src) == ((n_Lines.getD i default).dst))) || r4)) (gy_f rfl) (fun hg => x_ld (p := .pointer (some ⟨b_2, 3, none⟩)) (v := I ((n_Lines.getD i default).rise)) (gd_of (c := !(((r2 || r3) || (((n_Lines.getD i default).src) == ((n_Lines.getD i default).dst))) || r4)) hg (.pointer (some ⟨b_2, 3, none⟩))) (ldb_sc Sc3 (H.blk (k := 0) rfl) rfl)) ?_
    obtain ⟨r5, hx28z, hM⟩ := M.e_bind hM
    refine t_gcall (!(((r2 || r3) || (((n_Lines.getD i default).src) == ((n_Lines.getD i default).dst))) || r4)) (gy_f rfl) cf69 (B r5) (fun _ => [I ((n_Lines.getD i default).rise), I (-1000000), I 1000000]) (fun hg => lst3 (gd_of (c := !(((r2 || r3) || (((n_Lines.getD i default).src) == ((n_Lines.getD i default).dst))) || r4)) hg (I ((n_Lines.getD i default).rise))) rfl rfl) H (fun hg => (nilometerref01_outside_ok ((n_Lines.getD i default).rise) (-1000000) 1000000 (M.e_opt hx28z hg) _ (H.give (A := []) rfl)).mono fun v_ w_ ⟨y_, hr_, hv_, H_⟩ => by subst hr_; exact ⟨hv_, H.via H_⟩) ?_
    intro w29z H
    refine s_val (x_por (b := (((r2 || r3) || (((n_Lines.getD i default).src) == ((n_Lines.getD i default).dst))) || r4)) (r := r5) rfl rfl (fun hb => gd_of (c := !(((r2 || r3) || (((n_Lines.getD i default).src) == ((n_Lines.getD i default).dst))) || r4)) (by first | exact hb | (rw [hb]; rfl) | simp_all) (B r5))) ?_
    refine s_val (x_mv (v := B ((((r2 || r3) || (((n_Lines.getD i default).src) == ((n_Lines.getD i default).dst))) || r4) || r5)) rfl) ?_
    refine g_val (!((((r2 || r3) || (((n_Lines.getD i default).src) == ((n_Lines.getD i default).dst))) || r4) || r5)) (gy_f rfl) (fun hg => x_fa (a := .pointer (some ⟨b_2, 0, none⟩)) (v := .pointer (some ⟨b_2, 4, none⟩)) rfl (fa_blk (o := 0) Fd133_4 Sz3)) ?_
    refine g_val (!((((r2 || r3) || (((n_Lines.getD i default).src) == ((n_Lines.getD i default).dst))) || r4) || r5)) (gy_f rfl) (fun hg => x_ld (p := .pointer (some ⟨b_2, 4, none⟩)) (v := I ((n_Lines.getD i default).err)) (gd_of (c := !((((r2 || r3) || (((n_Lines.getD i default).src) == ((n_Lines.getD i default).dst))) || r4) || r5)) hg (.pointer (some ⟨b_2, 4, none⟩))) (ldb_sc Sc3 (H.blk (k := 0) rfl) rfl)) ?_
    obtain ⟨r6, hx30z, hM⟩ := M.e_bind hM
    refine t_gcall (!((((r2 || r3) || (((n_Lines.getD i default).src) == ((n_Lines.getD i default).dst))) || r4) || r5)) (gy_f rfl) cf69 (B r6) (fun _ => [I ((n_Lines.getD i default).err), I 0, I 10000]) (fun hg => lst3 (gd_of (c := !((((r2 || r3) || (((n_Lines.getD i default).src) == ((n_Lines.getD i default).dst))) || r4) || r5)) hg (I ((n_Lines.getD i default).err))) rfl rfl) H (fun hg => (nilometerref01_outside_ok ((n_Lines.getD i default).err) 0 10000 (M.e_opt hx30z hg) _ (H.give (A := []) rfl)).mono fun v_ w_ ⟨y_, hr_, hv_, H_⟩ => by subst hr_; exact ⟨hv_, H.via H_⟩) ?_
    intro w31z H
    refine s_val (x_por (b := ((((r2 || r3) || (((n_Lines.getD i default).src) == ((n_Lines.getD i default).dst))) || r4) || r5)) (r := r6) rfl rfl (fun hb => gd_of (c := !((((r2 || r3) || (((n_Lines.getD i default).src) == ((n_Lines.getD i default).dst))) || r4) || r5)) (by first | exact hb | (rw [hb]; rfl) | simp_all) (B r6))) ?_
    refine s_nil ?_
    refine W.cond (((((r2 || r3) || (((n_Lines.getD i default).src) == ((n_Lines.getD i default).dst))) || r4) || r5) || r6) rfl (fun c32z => ?_) (fun c32z => ?_)
    ·replace hM := M.e_t hM c32z
     refine W.seq ?_
     refine W.region rfl ?_
     refine s_val (x_as (v := I 20) rfl) ?_
     refine s_nil ?_
     refine W.ret ?_
     have hX33z := M.e_inr hM hN13z
     subst hX33z
     replace hM := hk6z
     try dsimp only at hM
     have hr_ := M.e_pure hM
     exact ⟨_, resE_tmp rfl, ⟨20, hr_, rfl, (H.pick [] (by decide) rfl)⟩⟩
    ·replace hM := M.e_f hM c32z
     refine W.skip ?_
     refine W.region rfl ?_
     refine s_val (x_mv (v := I (i : Int)) rfl) ?_
     refine s_val (x_ari (a := (i : Int)) (b := 1) (r := (i : Int) + 1) rfl rfl rfl (by omega)) ?_
     refine s_val (x_as (v := I ((i : Int) + 1)) rfl) ?_
     refine s_nil ?_
     exact ⟨m10z, lt11z, i + 1, _, upds_of _ _ ⟨rfl, rfl, trivial⟩, M.e_inl hM hN13z, (H.pick [1] (by decide) rfl)⟩
   ·replace hM := M.e_f hM c15z
    simp only [decide_eq_true_eq, decide_eq_false_iff_not, beq_iff_eq, bne_iff_ne, beq_eq_false_iff_ne, bne_eq_false_iff_eq, ne_eq, Decidable.not_not] at c15z
    refine W.exit ?_
    have hX34z := M.e_inr hM hN13z
    subst hX34z
    replace hM := hk6z
    try dsimp only at hM
    refine W.seq ?_
    refine W.region rfl ?_
    refine s_val (x_as (v := I 0) rfl) ?_
    refine s_nil ?_
    refine W.ret ?_
    have hr_ := M.e_pure hM
    exact ⟨_, resE_tmp rfl, ⟨0, hr_, rfl, (H.pick [] (by decide) rfl)⟩⟩

def m_nilometerref01_table_b18 (n_Lines : List Line) (a : Nat) (b : Nat) : (Int × Nat) -> M ((Int × Nat) ⊕ Int) := fun (most, i) =>
  bif decide ((i : Int) < (n_Lines.length : Int)) then (
  M.grd (decide ((i : Int) < (n_Lines.length : Int))) <|
  bif ((((n_Lines.getD i default).src) == (a : Int)) && (((n_Lines.getD i default).dst) == (b : Int))) then (
  M.grd (decide ((-9223372036854775808 : Int) <= (((n_Lines.getD i default).rise) + ((n_Lines.getD i default).err))) && decide ((((n_Lines.getD i default).rise) + ((n_Lines.getD i default).err)) <= (9223372036854775807 : Int))) <|
  bif ((((n_Lines.getD i default).src) == (b : Int)) && (((n_Lines.getD i default).dst) == (a : Int))) then (
  M.grd (decide ((-9223372036854775808 : Int) <= (((n_Lines.getD i default).err) - ((n_Lines.getD i default).rise))) && decide ((((n_Lines.getD i default).err) - ((n_Lines.getD i default).rise)) <= (9223372036854775807 : Int))) <|
  M.pure (.inl (min (min most (((n_Lines.getD i default).rise) + ((n_Lines.getD i default).err))) (((n_Lines.getD i default).err) - ((n_Lines.getD i default).rise)), i + 1)))
  else (
  M.pure (.inl (min most (((n_Lines.getD i default).rise) + ((n_Lines.getD i default).err)), i + 1))))
  else (
  bif ((((n_Lines.getD i default).src) == (b : Int)) && (((n_Lines.getD i default).dst) == (a : Int))) then (
  M.grd (decide ((-9223372036854775808 : Int) <= (((n_Lines.getD i default).err) - ((n_Lines.getD i default).rise))) && decide ((((n_Lines.getD i default).err) - ((n_Lines.getD i default).rise)) <= (9223372036854775807 : Int))) <|
  M.pure (.inl (min most (((n_Lines.getD i default).err) - ((n_Lines.getD i default).rise)), i + 1)))
  else (
  M.pure (.inl (most, i + 1)))))
  else (
  M.pure (.inr most))
def m_nilometerref01_table_b19 (n_Lines : List Line) (a : Nat) (b : Nat) : (Int × Nat) -> M ((Int × Nat) ⊕ Int) := fun (most, i) =>
  bif decide ((i : Int) < (n_Lines.length : Int)) then (
  M.grd (decide ((i : Int) < (n_Lines.length : Int))) <|
  bif ((((n_Lines.getD i default).src) == (a : Int)) && (((n_Lines.getD i default).dst) == (b : Int))) then (
  M.grd (decide ((-9223372036854775808 : Int) <= (((n_Lines.getD i default).rise) + ((n_Lines.getD i default).err))) && decide ((((n_Lines.getD i default).rise) + ((n_Lines.getD i default).err)) <= (9223372036854775807 : Int))) <|
  bif ((((n_Lines.getD i default).src) == (b : Int)) && (((n_Lines.getD i default).dst) == (a : Int))) then (
  M.grd (decide ((-9223372036854775808 : Int) <= (((n_Lines.getD i default).err) - ((n_Lines.getD i default).rise))) && decide ((((n_Lines.getD i default).err) - ((n_Lines.getD i default).rise)) <= (9223372036854775807 : Int))) <|
  M.pure (.inl (min (min most (((n_Lines.getD i default).rise) + ((n_Lines.getD i default).err))) (((n_Lines.getD i default).err) - ((n_Lines.getD i default).rise)), i + 1)))
  else (
  M.pure (.inl (min most (((n_Lines.getD i default).rise) + ((n_Lines.getD i default).err)), i + 1))))
  else (
  bif ((((n_Lines.getD i default).src) == (b : Int)) && (((n_Lines.getD i default).dst) == (a : Int))) then (
  M.grd (decide ((-9223372036854775808 : Int) <= (((n_Lines.getD i default).err) - ((n_Lines.getD i default).rise))) && decide ((((n_Lines.getD i default).err) - ((n_Lines.getD i default).rise)) <= (9223372036854775807 : Int))) <|
  M.pure (.inl (min most (((n_Lines.getD i default).err) - ((n_Lines.getD i default).rise)), i + 1)))
  else (
  M.pure (.inl (most, i + 1)))))
  else (
  M.pure (.inr most))
def m_nilometerref01_table_b20 (n_Marks : Int) (n_Lines : List Line) (a : Nat) : (Nat × (List Int)) -> M ((Nat × (List Int)) ⊕ ((List Int) × (List Int))) := fun (b, l) =>
  bif decide ((b : Int) < n_Marks) then (
  bif (a : Int) == (b : Int) then (
  M.bind (M.iter (m_nilometerref01_table_b18 n_Lines a b) (0, 0)) fun most2 =>
  M.grd (decide ((l.length + ([(most2 : Int)]).length) * 8 <= 140737488355328)) <|
  M.grd (decide ((-9223372036854775808 : Int) <= ((b : Int) + 1)) && decide (((b : Int) + 1) <= (9223372036854775807 : Int))) <|
  M.pure (.inl (b + 1, l ++ ([(most2 : Int)]))))
  else (
  M.bind (M.iter (m_nilometerref01_table_b19 n_Lines a b) (1000000000000, 0)) fun most2 =>
  M.grd (decide ((l.length + ([(most2 : Int)]).length) * 8 <= 140737488355328)) <|
  M.grd (decide ((-9223372036854775808 : Int) <= ((b : Int) + 1)) && decide (((b : Int) + 1) <= (9223372036854775807 : Int))) <|
  M.pure (.inl (b + 1, l ++ ([(most2 : Int)])))))
  else (
  M.pure (.inr (l, l)))
def m_nilometerref01_table_b21 (n_Marks : Int) (n_Lines : List Line) : (Nat × (List (List Int))) -> M ((Nat × (List (List Int))) ⊕ ((List (List Int)) × (List (List Int)))) := fun (a, l4) =>
  bif decide ((a : Int) < n_Marks) then (
  M.bind (M.iter (m_nilometerref01_table_b20 n_Marks n_Lines a) (0, [])) fun (l2, l3) =>
  M.grd (decide ((l4.length + 1) * 24 <= 140737488355328)) <|
  M.grd (decide ((-9223372036854775808 : Int) <= ((a : Int) + 1)) && decide (((a : Int) + 1) <= (9223372036854775807 : Int))) <|
  M.pure (.inl (a + 1, l4 ++ [l3])))
  else (
  M.pure (.inr (l4, l4)))
def m_nilometerref01_table_b26 (n_Marks : Int) (k : Nat) (a2 : Nat) : ((List (List Int)) × Nat) -> M (((List (List Int)) × Nat) ⊕ ((List (List Int)) × (List (List Int)))) := fun (l7, b2) =>
  bif decide ((b2 : Int) < n_Marks) then (
  M.grd (decide ((a2 : Int) < (l7.length : Int))) <|
  M.grd (decide ((k : Int) < ((l7.getD a2 ([])).length : Int))) <|
  M.grd ((!(decide (((l7.getD a2 ([])).getD k 0) < 1000000000000)) || (decide ((k : Int) < (l7.length : Int))))) <|
  M.grd ((!(decide (((l7.getD a2 ([])).getD k 0) < 1000000000000)) || (decide ((b2 : Int) < ((l7.getD k ([])).length : Int))))) <|
  bif ((decide (((l7.getD a2 ([])).getD k 0) < 1000000000000)) && (decide (((l7.getD k ([])).getD b2 0) < 1000000000000))) then (
  M.grd (decide ((b2 : Int) < ((l7.getD a2 ([])).length : Int))) <|
  M.grd (decide ((k : Int) < (l7.length : Int))) <|
  M.grd (decide ((b2 : Int) < ((l7.getD k ([])).length : Int))) <|
  M.grd (decide ((-9223372036854775808 : Int) <= (((l7.getD a2 ([])).getD k 0) + ((l7.getD k ([])).getD b2 0))) && decide ((((l7.getD a2 ([])).getD k 0) + ((l7.getD k ([])).getD b2 0)) <= (9223372036854775807 : Int))) <|
  M.grd (decide ((-9223372036854775808 : Int) <= ((b2 : Int) + 1)) && decide (((b2 : Int) + 1) <= (9223372036854775807 : Int))) <|
  M.pure (.inl (l7.set a2 ((l7.getD a2 ([])).set b2 (max (-1000000000000) (min ((l7.getD a2 ([])).getD b2 0) (((l7.getD a2 ([])).getD k 0) + ((l7.getD k ([])).getD b2 0))) : Int)), b2 + 1)))
  else (
  M.grd (decide ((-9223372036854775808 : Int) <= ((b2 : Int) + 1)) && decide (((b2 : Int) + 1) <= (9223372036854775807 : Int))) <|
  M.pure (.inl (l7, b2 + 1))))
  else (
  M.pure (.inr (l7, l7)))
def m_nilometerref01_table_b27 (n_Marks : Int) (k : Nat) : ((List (List Int)) × Nat) -> M (((List (List Int)) × Nat) ⊕ ((List (List Int)) × (List (List Int)))) := fun (l10, a2) =>
  bif decide ((a2 : Int) < n_Marks) then (
  M.bind (M.iter (m_nilometerref01_table_b26 n_Marks k a2) (l10, 0)) fun (l8, l9) =>
  M.grd (decide ((-9223372036854775808 : Int) <= ((a2 : Int) + 1)) && decide (((a2 : Int) + 1) <= (9223372036854775807 : Int))) <|
  M.pure (.inl (l9, a2 + 1)))
  else (
  M.pure (.inr (l10, l10)))
def m_nilometerref01_table_b28 (n_Marks : Int) : ((List (List Int)) × Nat) -> M (((List (List Int)) × Nat) ⊕ ((List (List Int)) × (List (List Int)))) := fun (l13, k) =>
  bif decide ((k : Int) < n_Marks) then (
  M.bind (M.iter (m_nilometerref01_table_b27 n_Marks k) (l13, 0)) fun (l11, l12) =>
  M.grd (decide ((-9223372036854775808 : Int) <= ((k : Int) + 1)) && decide (((k : Int) + 1) <= (9223372036854775807 : Int))) <|
  M.pure (.inl (l12, k + 1)))
  else (
  M.pure (.inr (l13, l13)))
def m_nilometerref01_table (n_Marks : Int) (n_Lines : List Line) : M (List (List Int)) :=
  M.bind (M.iter (m_nilometerref01_table_b21 n_Marks n_Lines) (0, [])) fun (l5, l6) =>
  M.bind (M.iter (m_nilometerref01_table_b28 n_Marks) (l6, 0)) fun (l14, l15) =>
  M.pure l15
theorem nilometerref01_table_ok {R : List Chunk} {C_n_Lines : Cells} {v_n_Lines : Value} (n_Marks : Int) (n_Lines : List Line) (hC_n_Lines : Reads R C_n_Lines) (hs_n_Lines : Sl C_n_Lines v_n_Lines n_Lines) {r : (List (List Int))} (hM : (m_nilometerref01_table n_Marks n_Lines).Ends r) (w : World) (H : St w w [] R) : Ret Try.prog 80 #[.agg #[I n_Marks, v_n_Lines]] w fun v w' => ∃ (y0 : List (List Int)) (u0 : Value) (Bs1 : Base), y0 = r /\ v = u0 /\ St w w' [cRo Bs1] R /\ Sl Bs1.cells u0 y0 := by
 refine ret_of_W Try.func80 rfl rfl rfl ?_
 refine W.seq ?_
 refine W.region rfl ?_
 refine t_box (v := .agg #[I n_Marks, v_n_Lines]) (cs := [I n_Marks, v_n_Lines]) H rfl rfl ?_
 intro b_1 w1z H
 refine s_val (x_as (v := .slice none 0 0) rfl) ?_
 refine s_nil ?_
 refine W.seq ?_
 refine W.region rfl ?_
 refine s_val (x_as (v := .slice none 0 0) rfl) ?_
 refine s_nil ?_
 refine W.seq ?_
 refine W.seq ?_
 refine W.region rfl ?_
 refine s_val (x_as (v := I 0) rfl) ?_
 refine s_nil ?_
 refine W.block ?_
 replace H : St w w1z [cMat (α := Int) 26 3 (.slice none 0 0) ([]) ([]), cBlk b_1 [I n_Marks, v_n_Lines] 64] R := H.nilMat (α := Int) 26 3
 have hus2z : ([] : List SV).length = ([] : List (List Int)).length := rfl
 obtain ⟨ex3z, hi4z, hk5z⟩ := M.e_bind hM
 obtain ⟨m0_, hi4z⟩ := M.e_iter hi4z
 refine W.loop (fun m σ W => ∃ (a : Nat) (l4 : List (List Int)) (v_l4 : Value) (us_l4 : List SV) (ρ : Env), σ = upds ρ [(1, .pointer (some ⟨b_1, 0, none⟩)), (3, v_l4), (4, I (a : Int))] /\ M.iterN (m_nilometerref01_table_b21 n_Marks n_Lines) m (a, l4) = some ex3z /\ St w W [cMat (α := Int) 26 3 v_l4 us_l4 l4, cBlk b_1 [I n_Marks, v_n_Lines] 64] R /\ us_l4.length = l4.length) ?_ ?_
 ·exact ⟨_, 0, [], (.slice none 0 0), [], _, upds_of _ _ ⟨rfl, rfl, rfl, trivial⟩, hi4z, H, hus2z⟩
 ·rintro m8z σ w6z ⟨a, l4, v_l4, us_l4, ρ, rfl, hI7z, H, hus_l4⟩
  obtain ⟨m9z, lt10z, x11z, hM, hN12z⟩ := M.e_iterN hI7z
  simp only [m_nilometerref01_table_b21] at hM
  clear hI7z
  refine W.seq ?_
  refine W.seq ?_
  refine W.region rfl ?_
  refine s_val (x_mv (v := I (a : Int)) rfl) ?_
  refine s_val (x_fa (a := .pointer (some ⟨b_1, 0, none⟩)) (v := .pointer (some ⟨b_1, 0, none⟩)) rfl (fa_blk (o := 0) Fd64_0 Sz3)) ?_
  refine s_val (x_ld (p := .pointer (some ⟨b_1, 0, none⟩)) (v := I n_Marks) rfl (ldb_sc Sc3 (H.blk (k := 1) rfl) rfl)) ?_
  refine s_val (x_cmp (kd := .i64) (a := (a : Int)) (b := n_Marks) (r := decide ((a : Int) < n_Marks)) rfl rfl rfl) ?_
  refine s_nil ?_
  refine W.cond (decide ((a : Int) < n_Marks)) rfl (fun c13z => ?_) (fun c13z => ?_)
  ·replace hM := M.e_t hM c13z
   simp only [decide_eq_true_eq, decide_eq_false_iff_not, beq_iff_eq, bne_iff_ne, beq_eq_false_iff_ne, bne_eq_false_iff_eq, ne_eq, Decidable.not_not] at c13z
   refine W.skip ?_
   refine W.seq ?_
   refine W.block ?_
   refine W.seq ?_
   refine W.region rfl ?_
   refine s_val (x_as (v := .slice none 0 0) rfl) ?_
   refine s_nil ?_
   refine W.seq ?_
   refine W.seq ?_
   refine W.region rfl ?_
   refine s_val (x_as (v := I 0) rfl) ?_
   refine s_nil ?_
   refine W.block ?_
   replace H : St w w6z [cOwn (α := Int) 3 (.slice none 0 0) ([]), cMat (α := Int) 26 3 v_l4 us_l4 l4, cBlk b_1 [I n_Marks, v_n_Lines] 64] R := H.nilOwn (α := Int) 3
   obtain ⟨ex14z, hi15z, hk16z⟩ := M.e_bind hM
   obtain ⟨m0_, hi15z⟩ := M.e_iter hi15z
   refine W.loop (fun m σ W => ∃ (b : Nat) (l : List Int) (v_l : Value) (ρ : Env), σ = upds ρ [(1, .pointer (some ⟨b_1, 0, none⟩)), (3, v_l4), (4, I (a : Int)), (5, v_l), (6, I (b : Int))] /\ M.iterN (m_nilometerref01_table_b20 n_Marks n_Lines a) m (b, l) = some ex14z /\ St w W [cOwn (α := Int) 3 v_l l, cMat (α := Int) 26 3 v_l4 us_l4 l4, cBlk b_1 [I n_Marks, v_n_Lines] 64] R) ?_ ?_
   ·exact ⟨_, 0, [], (.slice none 0 0), _, upds_of _ _ ⟨rfl, rfl, rfl, rfl, rfl, trivial⟩, hi15z, H⟩
   ·rintro m19z σ w17z ⟨b, l, v_l, ρ, rfl, hI18z, H⟩
    obtain ⟨m20z, lt21z, x22z, hM, hN23z⟩ := M.e_iterN hI18z
    simp only [m_nilometerref01_table_b20] at hM
    clear hI18z
    refine W.seq ?_
    refine W.seq ?_
    refine W.region rfl ?_
    refine s_val (x_mv (v := I (b : Int)) rfl) ?_
    refine s_val (x_fa (a := .pointer (some ⟨b_1, 0, none⟩)) (v := .pointer (some ⟨b_1, 0, none⟩)) rfl (fa_blk (o := 0) Fd64_0 Sz3)) ?_
    refine s_val (x_ld (p := .pointer (some ⟨b_1, 0, none⟩)) (v := I n_Marks) rfl (ldb_sc Sc3 (H.blk (k := 2) rfl) rfl)) ?_
    refine s_val (x_cmp (kd := .i64) (a := (b : Int)) (b := n_Marks) (r := decide ((b : Int) < n_Marks)) rfl rfl rfl) ?_
    refine s_nil ?_
    refine W.cond (decide ((b : Int) < n_Marks)) rfl (fun c24z => ?_) (fun c24z => ?_)
    ·replace hM := M.e_t hM c24z
     simp only [decide_eq_true_eq, decide_eq_false_iff_not, beq_iff_eq, bne_iff_ne, beq_eq_false_iff_ne, bne_eq_false_iff_eq, ne_eq, Decidable.not_not] at c24z
     refine W.skip ?_
     refine W.seq ?_
     refine W.block ?_
     refine W.seq ?_
     refine W.region rfl ?_
     refine s_val (x_as (v := I 1000000000000) rfl) ?_
     refine s_nil ?_
     refine W.seq ?_
     refine W.seq ?_
     refine W.region rfl ?_
     refine s_val (x_mv (v := I (a : Int)) rfl) ?_
     refine s_val (x_mv (v := I (b : Int)) rfl) ?_
     refine s_val (x_cmp (kd := .i64) (a := (a : Int)) (b := (b : Int)) (r := (a : Int) == (b : Int)) rfl rfl rfl) ?_
     refine s_nil ?_
     refine W.cond ((a : Int) == (b : Int)) rfl (fun c25z => ?_) (fun c25z => ?_)
     ·replace hM := M.e_t hM c25z
      simp only [decide_eq_true_eq, decide_eq_false_iff_not, beq_iff_eq, bne_iff_ne, beq_eq_false_iff_ne, bne_eq_false_iff_eq, ne_eq, Decidable.not_not] at c25z
      refine W.region rfl ?_
      refine s_val (x_as (v := I 0) rfl) ?_
      refine s_nil ?_
      refine W.seq ?_
      refine W.seq ?_
      refine W.region rfl ?_
      refine s_val (x_as (v := I 0) rfl) ?_
      refine s_nil ?_
      refine W.block ?_
      obtain ⟨ex26z, hi27z, hk28z⟩ := M.e_bind hM
      obtain ⟨m0_, hi27z⟩ := M.e_iter hi27z
      refine W.loop (fun m σ W => ∃ (most : Int) (i : Nat) (ρ : Env), σ = upds ρ [(1, .pointer (some ⟨b_1, 0, none⟩)), (3, v_l4), (4, I (a : Int)), (5, v_l), (6, I (b : Int)), (7, I most), (8, I (i : Int))] /\ M.iterN (m_nilometerref01_table_b18 n_Lines a b) m (most, i) = some ex26z /\ St w W [cOwn (α := Int) 3 v_l l, cMat (α := Int) 26 3 v_l4 us_l4 l4, cBlk b_1 [I n_Marks, v_n_Lines] 64] R) ?_ ?_
      ·exact ⟨_, 0, 0, _, upds_of _ _ ⟨rfl, rfl, rfl, rfl, rfl, rfl, rfl, trivial⟩, hi27z, H⟩
      ·rintro m31z σ w29z ⟨most, i, ρ, rfl, hI30z, H⟩
       obtain ⟨m32z, lt33z, x34z, hM, hN35z⟩ := M.e_iterN hI30z
       simp only [m_nilometerref01_table_b18] at hM
       clear hI30z
       refine W.seq ?_
       refine W.seq ?_
       refine W.region rfl ?_
       refine s_val (x_mv (v := I (i : Int)) rfl) ?_
       refine s_val (x_fa (a := .pointer (some ⟨b_1, 0, none⟩)) (v := .pointer (some ⟨b_1, 1, none⟩)) rfl (fa_blk (o := 0) Fd64_1 Sz62)) ?_
       refine s_val (x_ld (p := .pointer (some ⟨b_1, 1, none⟩)) (v := v_n_Lines) rfl (ldb_sc Sc62 (H.blk (k := 2) rfl) rfl)) ?_
       have hl36z := (hs_n_Lines).len_le
       refine s_val (x_lenS T62.und rfl hs_n_Lines) ?_
       refine s_val (x_cmp (kd := .i64) (a := (i : Int)) (b := (n_Lines.length : Int)) (r := decide ((i : Int) < (n_Lines.length : Int))) rfl rfl rfl) ?_
       refine s_nil ?_
       refine W.cond (decide ((i : Int) < (n_Lines.length : Int))) rfl (fun c37z => ?_) (fun c37z => ?_)
       ·replace hM := M.e_t hM c37z
        simp only [decide_eq_true_eq, decide_eq_false_iff_not, beq_iff_eq, bne_iff_ne, beq_eq_false_iff_ne, bne_eq_false_iff_eq, ne_eq, Decidable.not_not] at c37z
        refine W.skip ?_
        refine W.seq ?_
        refine W.block ?_
        refine W.seq ?_
        refine W.region rfl ?_
        refine s_val (x_fa (a := .pointer (some ⟨b_1, 0, none⟩)) (v := .pointer (some ⟨b_1, 1, none⟩)) rfl (fa_blk (o := 0) Fd64_1 Sz62)) ?_
        refine s_val (x_ld (p := .pointer (some ⟨b_1, 1, none⟩)) (v := v_n_Lines) rfl (ldb_sc Sc62 (H.blk (k := 2) rfl) rfl)) ?_
        refine s_val (x_mv (v := I (i : Int)) rfl) ?_
        obtain ⟨sd38z, hM⟩ := M.e_grd hM
        simp only [Bool.and_eq_true, decide_eq_true_eq] at sd38z
        refine s_val (x_ix (a := v_n_Lines) (b := I (i : Int)) (v := vat v_n_Lines 5 (Int.toNat (i : Int))) rfl rfl (Sl.ix (α := Line) T62.und T62.size hs_n_Lines (by omega) (by omega))) ?_
        refine s_val (x_ld (p := vat v_n_Lines 5 (Int.toNat (i : Int))) (v := .agg #[I ((n_Lines.getD i default).src), I ((n_Lines.getD i default).dst), I ((n_Lines.getD i default).day), I ((n_Lines.getD i default).rise), I ((n_Lines.getD i default).err)]) rfl (ld_ag Ag133 Sz133 (At.mono (Line_atA hs_n_Lines (i := (i : Int)) (by omega) (by omega)) (hC_n_Lines.at H)))) ?_
        refine t_alloc (cs := [I 0, I 0, I 0, I 0, I 0]) H Al133 rfl ?_
        intro b_2 w39z H
        refine t_st (k := 0) (b := b_2) (off := 0) (cs := [I 0, I 0, I 0, I 0, I 0]) (vs := [I ((n_Lines.getD i default).src), I ((n_Lines.getD i default).dst), I ((n_Lines.getD i default).day), I ((n_Lines.getD i default).rise), I ((n_Lines.getD i default).err)]) (cs' := [I ((n_Lines.getD i default).src), I ((n_Lines.getD i default).dst), I ((n_Lines.getD i default).day), I ((n_Lines.getD i default).rise), I ((n_Lines.getD i default).err)]) (v := .agg #[I ((n_Lines.getD i default).src), I ((n_Lines.getD i default).dst), I ((n_Lines.getD i default).day), I ((n_Lines.getD i default).rise), I ((n_Lines.getD i default).err)]) (L' := [cBlk b_2 [I ((n_Lines.getD i default).src), I ((n_Lines.getD i default).dst), I ((n_Lines.getD i default).day), I ((n_Lines.getD i default).rise), I ((n_Lines.getD i default).err)] 133, cOwn (α := Int) 3 v_l l, cMat (α := Int) 26 3 v_l4 us_l4 l4, cBlk b_1 [I n_Marks, v_n_Lines] 64]) H rfl rfl rfl Sz133 rfl rfl rfl rfl rfl rfl ?_
        intro w40z H
        refine s_nil ?_
        refine W.seq ?_
        refine W.seq ?_
        refine W.region rfl ?_
        refine s_val (x_fa (a := .pointer (some ⟨b_2, 0, none⟩)) (v := .pointer (some ⟨b_2, 0, none⟩)) rfl (fa_blk (o := 0) Fd133_0 Sz3)) ?_
        refine s_val (x_ld (p := .pointer (some ⟨b_2, 0, none⟩)) (v := I ((n_Lines.getD i default).src)) rfl (ldb_sc Sc3 (H.blk (k := 0) rfl) rfl)) ?_
        refine s_val (x_mv (v := I (a : Int)) rfl) ?_
        refine s_val (x_cmp (kd := .i64) (a := (n_Lines.getD i default).src) (b := (a : Int)) (r := ((n_Lines.getD i default).src) == (a : Int)) rfl rfl rfl) ?_
        refine s_val (x_mv (v := B (((n_Lines.getD i default).src) == (a : Int))) rfl) ?_
        refine g_val (((n_Lines.getD i default).src) == (a : Int)) (gy_t rfl) (fun hg => x_fa (a := .pointer (some ⟨b_2, 0, none⟩)) (v := .pointer (some ⟨b_2, 1, none⟩)) rfl (fa_blk (o := 0) Fd133_1 Sz3)) ?_
        refine g_val (((n_Lines.getD i default).src) == (a : Int)) (gy_t rfl) (fun hg => x_ld (p := .pointer (some ⟨b_2, 1, none⟩)) (v := I ((n_Lines.getD i default).dst)) (gd_of (c := ((n_Lines.getD i default).src) == (a : Int)) hg (.pointer (some ⟨b_2, 1, none⟩))) (ldb_sc Sc3 (H.blk (k := 0) rfl) rfl)) ?_
        refine g_val (((n_Lines.getD i default).src) == (a : Int)) (gy_t rfl) (fun hg => x_mv (v := I (b : Int)) rfl) ?_
        refine g_val (((n_Lines.getD i default).src) == (a : Int)) (gy_t rfl) (fun hg => x_cmp (kd := .i64) (a := (n_Lines.getD i default).dst) (b := (b : Int)) (r := ((n_Lines.getD i default).dst) == (b : Int)) (gd_of (c := ((n_Lines.getD i default).src) == (a : Int)) hg (I ((n_Lines.getD i default).dst))) (gd_of (c := ((n_Lines.getD i default).src) == (a : Int)) hg (I (b : Int))) rfl) ?_
        refine s_val (x_pand (b := ((n_Lines.getD i default).src) == (a : Int)) (r := ((n_Lines.getD i default).dst) == (b : Int)) rfl (fun hb => gd_of (c := ((n_Lines.getD i default).src) == (a : Int)) (by first | exact hb | (rw [hb]; rfl) | simp_all) (B (((n_Lines.getD i default).dst) == (b : Int)))) rfl) ?_
        refine s_nil ?_
        refine W.cond ((((n_Lines.getD i default).src) == (a : Int)) && (((n_Lines.getD i default).dst) == (b : Int))) rfl (fun c41z => ?_) (fun c41z => ?_)
        ·replace hM := M.e_t hM c41z
         refine W.region rfl ?_
         refine s_val (x_mv (v := I most) rfl) ?_
         refine s_val (x_fa (a := .pointer (some ⟨b_2, 0, none⟩)) (v := .pointer (some ⟨b_2, 3, none⟩)) rfl (fa_blk (o := 0) Fd133_3 Sz3)) ?_
         refine s_val (x_ld (p := .pointer (some ⟨b_2, 3, none⟩)) (v := I ((n_Lines.getD i default).rise)) rfl (ldb_sc Sc3 (H.blk (k := 0) rfl) rfl)) ?_
         refine s_val (x_fa (a := .pointer (some ⟨b_2, 0, none⟩)) (v := .pointer (some ⟨b_2, 4, none⟩)) rfl (fa_blk (o := 0) Fd133_4 Sz3)) ?_
         refine s_val (x_ld (p := .pointer (some ⟨b_2, 4, none⟩)) (v := I ((n_Lines.getD i default).err)) rfl (ldb_sc Sc3 (H.blk (k := 0) rfl) rfl)) ?_
         obtain ⟨sd42z, hM⟩ := M.e_grd hM
         simp only [Bool.and_eq_true, decide_eq_true_eq] at sd42z
         refine s_val (x_ari (a := (n_Lines.getD i default).rise) (b := (n_Lines.getD i default).err) (r := ((n_Lines.getD i default).rise) + ((n_Lines.getD i default).err)) rfl rfl rfl (by omega)) ?_
         refine s_val (x_min (kd := .i64) (a := most) (b := ((n_Lines.getD i default).rise) + ((n_Lines.getD i default).err)) rfl rfl) ?_
         refine s_val (x_as (v := I (min most (((n_Lines.getD i default).rise) + ((n_Lines.getD i default).err)))) rfl) ?_
         refine s_nil ?_
         refine W.seq ?_
         refine W.region rfl ?_
         refine s_val (x_fa (a := .pointer (some ⟨b_2, 0, none⟩)) (v := .pointer (some ⟨b_2, 0, none⟩)) rfl (fa_blk (o := 0) Fd133_0 Sz3)) ?_
         refine s_val (x_ld (p := .pointer (some ⟨b_2, 0, none⟩)) (v := I ((n_Lines.getD i default).src)) rfl (ldb_sc Sc3 (H.blk (k := 0) rfl) rfl)) ?_
         refine s_val (x_mv (v := I (b : Int)) rfl) ?_
         refine s_val (x_cmp (kd := .i64) (a := (n_Lines.getD i default).src) (b := (b : Int)) (r := ((n_Lines.getD i default).src) == (b : Int)) rfl rfl rfl) ?_
         refine s_val (x_mv (v := B (((n_Lines.getD i default).src) == (b : Int))) rfl) ?_
         refine g_val (((n_Lines.getD i default).src) == (b : Int)) (gy_t rfl) (fun hg => x_fa (a := .pointer (some ⟨b_2, 0, none⟩)) (v := .pointer (some ⟨b_2, 1, none⟩)) rfl (fa_blk (o := 0) Fd133_1 Sz3)) ?_
         refine g_val (((n_Lines.getD i default).src) == (b : Int)) (gy_t rfl) (fun hg => x_ld (p := .pointer (some ⟨b_2, 1, none⟩)) (v := I ((n_Lines.getD i default).dst)) (gd_of (c := ((n_Lines.getD i default).src) == (b : Int)) hg (.pointer (some ⟨b_2, 1, none⟩))) (ldb_sc Sc3 (H.blk (k := 0) rfl) rfl)) ?_
         refine g_val (((n_Lines.getD i default).src) == (b : Int)) (gy_t rfl) (fun hg => x_mv (v := I (a : Int)) rfl) ?_
         refine g_val (((n_Lines.getD i default).src) == (b : Int)) (gy_t rfl) (fun hg => x_cmp (kd := .i64) (a := (n_Lines.getD i default).dst) (b := (a : Int)) (r := ((n_Lines.getD i default).dst) == (a : Int)) (gd_of (c := ((n_Lines.getD i default).src) == (b : Int)) hg (I ((n_Lines.getD i default).dst))) (gd_of (c := ((n_Lines.getD i default).src) == (b : Int)) hg (I (a : Int))) rfl) ?_
         refine s_val (x_pand (b := ((n_Lines.getD i default).src) == (b : Int)) (r := ((n_Lines.getD i default).dst) == (a : Int)) rfl (fun hb => gd_of (c := ((n_Lines.getD i default).src) == (b : Int)) (by first | exact hb | (rw [hb]; rfl) | simp_all) (B (((n_Lines.getD i default).dst) == (a : Int)))) rfl) ?_
         refine s_nil ?_
         refine W.cond ((((n_Lines.getD i default).src) == (b : Int)) && (((n_Lines.getD i default).dst) == (a : Int))) rfl (fun c43z => ?_) (fun c43z => ?_)
         ·replace hM := M.e_t hM c43z
          refine W.region rfl ?_
          refine s_val (x_mv (v := I (min most (((n_Lines.getD i default).rise) + ((n_Lines.getD i default).err)))) rfl) ?_
          refine s_val (x_fa (a := .pointer (some ⟨b_2, 0, none⟩)) (v := .pointer (some ⟨b_2, 4, none⟩)) rfl (fa_blk (o := 0) Fd133_4 Sz3)) ?_
          refine s_val (x_ld (p := .pointer (some ⟨b_2, 4, none⟩)) (v := I ((n_Lines.getD i default).err)) rfl (ldb_sc Sc3 (H.blk (k := 0) rfl) rfl)) ?_
          refine s_val (x_fa (a := .pointer (some ⟨b_2, 0, none⟩)) (v := .pointer (some ⟨b_2, 3, none⟩)) rfl (fa_blk (o := 0) Fd133_3 Sz3)) ?_
          refine s_val (x_ld (p := .pointer (some ⟨b_2, 3, none⟩)) (v := I ((n_Lines.getD i default).rise)) rfl (ldb_sc Sc3 (H.blk (k := 0) rfl) rfl)) ?_
          obtain ⟨sd44z, hM⟩ := M.e_grd hM
          simp only [Bool.and_eq_true, decide_eq_true_eq] at sd44z
          refine s_val (x_ari (a := (n_Lines.getD i default).err) (b := (n_Lines.getD i default).rise) (r := ((n_Lines.getD i default).err) - ((n_Lines.getD i default).rise)) rfl rfl rfl (by omega)) ?_
          refine s_val (x_min (kd := .i64) (a := min most (((n_Lines.getD i default).rise) + ((n_Lines.getD i default).err))) (b := ((n_Lines.getD i default).err) - ((n_Lines.getD i default).rise)) rfl rfl) ?_
          refine s_val (x_as (v := I (min (min most (((n_Lines.getD i default).rise) + ((n_Lines.getD i default).err))) (((n_Lines.getD i default).err) - ((n_Lines.getD i default).rise)))) rfl) ?_
          refine s_nil ?_
          refine W.region rfl ?_
          refine s_val (x_mv (v := I (i : Int)) rfl) ?_
          refine s_val (x_ari (a := (i : Int)) (b := 1) (r := (i : Int) + 1) rfl rfl rfl (by omega)) ?_
          refine s_val (x_as (v := I ((i : Int) + 1)) rfl) ?_
          refine s_nil ?_
          exact ⟨m32z, lt33z, min (min most (((n_Lines.getD i default).rise) + ((n_Lines.getD i default).err))) (((n_Lines.getD i default).err) - ((n_Lines.getD i default).rise)), i + 1, _, upds_of _ _ ⟨rfl, rfl, rfl, rfl, rfl, rfl, rfl, trivial⟩, M.e_inl hM hN35z, (H.pick [1, 2, 3] (by decide) rfl)⟩
         ·replace hM := M.e_f hM c43z
          refine W.skip ?_
          refine W.region rfl ?_
          refine s_val (x_mv (v := I (i : Int)) rfl) ?_
          refine s_val (x_ari (a := (i : Int)) (b := 1) (r := (i : Int) + 1) rfl rfl rfl (by omega)) ?_
          refine s_val (x_as (v := I ((i : Int) + 1)) rfl) ?_
          refine s_nil ?_
          exact ⟨m32z, lt33z, min most (((n_Lines.getD i default).rise) + ((n_Lines.getD i default).err)), i + 1, _, upds_of _ _ ⟨rfl, rfl, rfl, rfl, rfl, rfl, rfl, trivial⟩, M.e_inl hM hN35z, (H.pick [1, 2, 3] (by decide) rfl)⟩
        ·replace hM := M.e_f hM c41z
         refine W.skip ?_
         refine W.seq ?_
         refine W.region rfl ?_
         refine s_val (x_fa (a := .pointer (some ⟨b_2, 0, none⟩)) (v := .pointer (some ⟨b_2, 0, none⟩)) rfl (fa_blk (o := 0) Fd133_0 Sz3)) ?_
         refine s_val (x_ld (p := .pointer (some ⟨b_2, 0, none⟩)) (v := I ((n_Lines.getD i default).src)) rfl (ldb_sc Sc3 (H.blk (k := 0) rfl) rfl)) ?_
         refine s_val (x_mv (v := I (b : Int)) rfl) ?_
         refine s_val (x_cmp (kd := .i64) (a := (n_Lines.getD i default).src) (b := (b : Int)) (r := ((n_Lines.getD i default).src) == (b : Int)) rfl rfl rfl) ?_
         refine s_val (x_mv (v := B (((n_Lines.getD i default).src) == (b : Int))) rfl) ?_
         refine g_val (((n_Lines.getD i default).src) == (b : Int)) (gy_t rfl) (fun hg => x_fa (a := .pointer (some ⟨b_2, 0, none⟩)) (v := .pointer (some ⟨b_2, 1, none⟩)) rfl (fa_blk (o := 0) Fd133_1 Sz3)) ?_
         refine g_val (((n_Lines.getD i default).src) == (b : Int)) (gy_t rfl) (fun hg => x_ld (p := .pointer (some ⟨b_2, 1, none⟩)) (v := I ((n_Lines.getD i default).dst)) (gd_of (c := ((n_Lines.getD i default).src) == (b : Int)) hg (.pointer (some ⟨b_2, 1, none⟩))) (ldb_sc Sc3 (H.blk (k := 0) rfl) rfl)) ?_
         refine g_val (((n_Lines.getD i default).src) == (b : Int)) (gy_t rfl) (fun hg => x_mv (v := I (a : Int)) rfl) ?_
         refine g_val (((n_Lines.getD i default).src) == (b : Int)) (gy_t rfl) (fun hg => x_cmp (kd := .i64) (a := (n_Lines.getD i default).dst) (b := (a : Int)) (r := ((n_Lines.getD i default).dst) == (a : Int)) (gd_of (c := ((n_Lines.getD i default).src) == (b : Int)) hg (I ((n_Lines.getD i default).dst))) (gd_of (c := ((n_Lines.getD i default).src) == (b : Int)) hg (I (a : Int))) rfl) ?_
         refine s_val (x_pand (b := ((n_Lines.getD i default).src) == (b : Int)) (r := ((n_Lines.getD i default).dst) == (a : Int)) rfl (fun hb => gd_of (c := ((n_Lines.getD i default).src) == (b : Int)) (by first | exact hb | (rw [hb]; rfl) | simp_all) (B (((n_Lines.getD i default).dst) == (a : Int)))) rfl) ?_
         refine s_nil ?_
         refine W.cond ((((n_Lines.getD i default).src) == (b : Int)) && (((n_Lines.getD i default).dst) == (a : Int))) rfl (fun c45z => ?_) (fun c45z => ?_)
         ·replace hM := M.e_t hM c45z
          refine W.region rfl ?_
          refine s_val (x_mv (v := I most) rfl) ?_
          refine s_val (x_fa (a := .pointer (some ⟨b_2, 0, none⟩)) (v := .pointer (some ⟨b_2, 4, none⟩)) rfl (fa_blk (o := 0) Fd133_4 Sz3)) ?_
          refine s_val (x_ld (p := .pointer (some ⟨b_2, 4, none⟩)) (v := I ((n_Lines.getD i default).err)) rfl (ldb_sc Sc3 (H.blk (k := 0) rfl) rfl)) ?_
          refine s_val (x_fa (a := .pointer (some ⟨b_2, 0, none⟩)) (v := .pointer (some ⟨b_2, 3, none⟩)) rfl (fa_blk (o := 0) Fd133_3 Sz3)) ?_
          refine s_val (x_ld (p := .pointer (some ⟨b_2, 3, none⟩)) (v := I ((n_Lines.getD i default).rise)) rfl (ldb_sc Sc3 (H.blk (k := 0) rfl) rfl)) ?_
          obtain ⟨sd46z, hM⟩ := M.e_grd hM
          simp only [Bool.and_eq_true, decide_eq_true_eq] at sd46z
          refine s_val (x_ari (a := (n_Lines.getD i default).err) (b := (n_Lines.getD i default).rise) (r := ((n_Lines.getD i default).err) - ((n_Lines.getD i default).rise)) rfl rfl rfl (by omega)) ?_
          refine s_val (x_min (kd := .i64) (a := most) (b := ((n_Lines.getD i default).err) - ((n_Lines.getD i default).rise)) rfl rfl) ?_
          refine s_val (x_as (v := I (min most (((n_Lines.getD i default).err) - ((n_Lines.getD i default).rise)))) rfl) ?_
          refine s_nil ?_
          refine W.region rfl ?_
          refine s_val (x_mv (v := I (i : Int)) rfl) ?_
          refine s_val (x_ari (a := (i : Int)) (b := 1) (r := (i : Int) + 1) rfl rfl rfl (by omega)) ?_
          refine s_val (x_as (v := I ((i : Int) + 1)) rfl) ?_
          refine s_nil ?_
          exact ⟨m32z, lt33z, min most (((n_Lines.getD i default).err) - ((n_Lines.getD i default).rise)), i + 1, _, upds_of _ _ ⟨rfl, rfl, rfl, rfl, rfl, rfl, rfl, trivial⟩, M.e_inl hM hN35z, (H.pick [1, 2, 3] (by decide) rfl)⟩
         ·replace hM := M.e_f hM c45z
          refine W.skip ?_
          refine W.region rfl ?_
          refine s_val (x_mv (v := I (i : Int)) rfl) ?_
          refine s_val (x_ari (a := (i : Int)) (b := 1) (r := (i : Int) + 1) rfl rfl rfl (by omega)) ?_
          refine s_val (x_as (v := I ((i : Int) + 1)) rfl) ?_
          refine s_nil ?_
          exact ⟨m32z, lt33z, most, i + 1, _, upds_of _ _ ⟨rfl, rfl, rfl, rfl, rfl, rfl, rfl, trivial⟩, M.e_inl hM hN35z, (H.pick [1, 2, 3] (by decide) rfl)⟩
       ·replace hM := M.e_f hM c37z
        simp only [decide_eq_true_eq, decide_eq_false_iff_not, beq_iff_eq, bne_iff_ne, beq_eq_false_iff_ne, bne_eq_false_iff_eq, ne_eq, Decidable.not_not] at c37z
        refine W.exit ?_
        have hX47z := M.e_inr hM hN35z
        subst hX47z
        replace hM := hk28z
        try dsimp only at hM
        refine W.region rfl ?_
        refine s_val (x_mv (v := v_l) rfl) ?_
        refine s_val (x_mv (v := I most) rfl) ?_
        refine t_bs (α := Int) T26 [I most] [(most : Int)] H rfl (.cons rfl (Flat.rep_enc _ (most : Int)) <| .nil) rfl rfl rfl ?_
        intro v48z w49z H
        obtain ⟨sd50z, hM⟩ := M.e_grd hM
        simp only [Bool.and_eq_true, decide_eq_true_eq] at sd50z
        refine t_app (α := Int) (k := 1) (l := l) (l2 := [(most : Int)]) (l' := l ++ ([(most : Int)])) (vy := v48z) T26 rfl H rfl rfl rfl (ownSl (H.get (k := 0) rfl)) (ownLe _ (H.get (k := 0) rfl)) (rfl) (by first | omega | (simp only [List.length_nil] at *; omega)) ?_
        intro v51z w52z H
        replace H : St w w52z [cOwn (α := Int) 3 v48z ([(most : Int)]), cOwn (α := Int) 3 v51z (l ++ ([(most : Int)])), cMat (α := Int) 26 3 v_l4 us_l4 l4, cBlk b_1 [I n_Marks, v_n_Lines] 64] R := H
        refine s_val (x_as (v := v51z) rfl) ?_
        refine s_nil ?_
        refine W.region rfl ?_
        refine s_val (x_mv (v := I (b : Int)) rfl) ?_
        obtain ⟨sd53z, hM⟩ := M.e_grd hM
        simp only [Bool.and_eq_true, decide_eq_true_eq] at sd53z
        refine s_val (x_ari (a := (b : Int)) (b := 1) (r := (b : Int) + 1) rfl rfl rfl (by omega)) ?_
        refine s_val (x_as (v := I ((b : Int) + 1)) rfl) ?_
        refine s_nil ?_
        exact ⟨m20z, lt21z, b + 1, l ++ ([(most : Int)]), v51z, _, upds_of _ _ ⟨rfl, rfl, rfl, rfl, rfl, trivial⟩, M.e_inl hM hN23z, (H.pick [1, 2, 3] (by decide) rfl)⟩
     ·replace hM := M.e_f hM c25z
      simp only [decide_eq_true_eq, decide_eq_false_iff_not, beq_iff_eq, bne_iff_ne, beq_eq_false_iff_ne, bne_eq_false_iff_eq, ne_eq, Decidable.not_not] at c25z
      refine W.skip ?_
      refine W.seq ?_
      refine W.seq ?_
      refine W.region rfl ?_
      refine s_val (x_as (v := I 0) rfl) ?_
      refine s_nil ?_
      refine W.block ?_
      obtain ⟨ex54z, hi55z, hk56z⟩ := M.e_bind hM
      obtain ⟨m0_, hi55z⟩ := M.e_iter hi55z
      refine W.loop (fun m σ W => ∃ (most : Int) (i : Nat) (ρ : Env), σ = upds ρ [(1, .pointer (some ⟨b_1, 0, none⟩)), (3, v_l4), (4, I (a : Int)), (5, v_l), (6, I (b : Int)), (7, I most), (8, I (i : Int))] /\ M.iterN (m_nilometerref01_table_b19 n_Lines a b) m (most, i) = some ex54z /\ St w W [cOwn (α := Int) 3 v_l l, cMat (α := Int) 26 3 v_l4 us_l4 l4, cBlk b_1 [I n_Marks, v_n_Lines] 64] R) ?_ ?_
      ·exact ⟨_, 1000000000000, 0, _, upds_of _ _ ⟨rfl, rfl, rfl, rfl, rfl, rfl, rfl, trivial⟩, hi55z, H⟩
      ·rintro m59z σ w57z ⟨most, i, ρ, rfl, hI58z, H⟩
       obtain ⟨m60z, lt61z, x62z, hM, hN63z⟩ := M.e_iterN hI58z
       simp only [m_nilometerref01_table_b19] at hM
       clear hI58z
       refine W.seq ?_
       refine W.seq ?_
       refine W.region rfl ?_
       refine s_val (x_mv (v := I (i : Int)) rfl) ?_
       refine s_val (x_fa (a := .pointer (some ⟨b_1, 0, none⟩)) (v := .pointer (some ⟨b_1, 1, none⟩)) rfl (fa_blk (o := 0) Fd64_1 Sz62)) ?_
       refine s_val (x_ld (p := .pointer (some ⟨b_1, 1, none⟩)) (v := v_n_Lines) rfl (ldb_sc Sc62 (H.blk (k := 2) rfl) rfl)) ?_
       have hl64z := (hs_n_Lines).len_le
       refine s_val (x_lenS T62.und rfl hs_n_Lines) ?_
       refine s_val (x_cmp (kd := .i64) (a := (i : Int)) (b := (n_Lines.length : Int)) (r := decide ((i : Int) < (n_Lines.length : Int))) rfl rfl rfl) ?_
       refine s_nil ?_
       refine W.cond (decide ((i : Int) < (n_Lines.length : Int))) rfl (fun c65z => ?_) (fun c65z => ?_)
       ·replace hM := M.e_t hM c65z
        simp only [decide_eq_true_eq, decide_eq_false_iff_not, beq_iff_eq, bne_iff_ne, beq_eq_false_iff_ne, bne_eq_false_iff_eq, ne_eq, Decidable.not_not] at c65z
        refine W.skip ?_
        refine W.seq ?_
        refine W.block ?_
        refine W.seq ?_
        refine W.region rfl ?_
        refine s_val (x_fa (a := .pointer (some ⟨b_1, 0, none⟩)) (v := .pointer (some ⟨b_1, 1, none⟩)) rfl (fa_blk (o := 0) Fd64_1 Sz62)) ?_
        refine s_val (x_ld (p := .pointer (some ⟨b_1, 1, none⟩)) (v := v_n_Lines) rfl (ldb_sc Sc62 (H.blk (k := 2) rfl) rfl)) ?_
        refine s_val (x_mv (v := I (i : Int)) rfl) ?_
        obtain ⟨sd66z, hM⟩ := M.e_grd hM
        simp only [Bool.and_eq_true, decide_eq_true_eq] at sd66z
        refine s_val (x_ix (a := v_n_Lines) (b := I (i : Int)) (v := vat v_n_Lines 5 (Int.toNat (i : Int))) rfl rfl (Sl.ix (α := Line) T62.und T62.size hs_n_Lines (by omega) (by omega))) ?_
        refine s_val (x_ld (p := vat v_n_Lines 5 (Int.toNat (i : Int))) (v := .agg #[I ((n_Lines.getD i default).src), I ((n_Lines.getD i default).dst), I ((n_Lines.getD i default).day), I ((n_Lines.getD i default).rise), I ((n_Lines.getD i default).err)]) rfl (ld_ag Ag133 Sz133 (At.mono (Line_atA hs_n_Lines (i := (i : Int)) (by omega) (by omega)) (hC_n_Lines.at H)))) ?_
        refine t_alloc (cs := [I 0, I 0, I 0, I 0, I 0]) H Al133 rfl ?_
        intro b_2 w67z H
        refine t_st (k := 0) (b := b_2) (off := 0) (cs := [I 0, I 0, I 0, I 0, I 0]) (vs := [I ((n_Lines.getD i default).src), I ((n_Lines.getD i default).dst), I ((n_Lines.getD i default).day), I ((n_Lines.getD i default).rise), I ((n_Lines.getD i default).err)]) (cs' := [I ((n_Lines.getD i default).src), I ((n_Lines.getD i default).dst), I ((n_Lines.getD i default).day), I ((n_Lines.getD i default).rise), I ((n_Lines.getD i default).err)]) (v := .agg #[I ((n_Lines.getD i default).src), I ((n_Lines.getD i default).dst), I ((n_Lines.getD i default).day), I ((n_Lines.getD i default).rise), I ((n_Lines.getD i default).err)]) (L' := [cBlk b_2 [I ((n_Lines.getD i default).src), I ((n_Lines.getD i default).dst), I ((n_Lines.getD i default).day), I ((n_Lines.getD i default).rise), I ((n_Lines.getD i default).err)] 133, cOwn (α := Int) 3 v_l l, cMat (α := Int) 26 3 v_l4 us_l4 l4, cBlk b_1 [I n_Marks, v_n_Lines] 64]) H rfl rfl rfl Sz133 rfl rfl rfl rfl rfl rfl ?_
        intro w68z H
        refine s_nil ?_
        refine W.seq ?_
        refine W.seq ?_
        refine W.region rfl ?_
        refine s_val (x_fa (a := .pointer (some ⟨b_2, 0, none⟩)) (v := .pointer (some ⟨b_2, 0, none⟩)) rfl (fa_blk (o := 0) Fd133_0 Sz3)) ?_
        refine s_val (x_ld (p := .pointer (some ⟨b_2, 0, none⟩)) (v := I ((n_Lines.getD i default).src)) rfl (ldb_sc Sc3 (H.blk (k := 0) rfl) rfl)) ?_
        refine s_val (x_mv (v := I (a : Int)) rfl) ?_
        refine s_val (x_cmp (kd := .i64) (a := (n_Lines.getD i default).src) (b := (a : Int)) (r := ((n_Lines.getD i default).src) == (a : Int)) rfl rfl rfl) ?_
        refine s_val (x_mv (v := B (((n_Lines.getD i default).src) == (a : Int))) rfl) ?_
        refine g_val (((n_Lines.getD i default).src) == (a : Int)) (gy_t rfl) (fun hg => x_fa (a := .pointer (some ⟨b_2, 0, none⟩)) (v := .pointer (some ⟨b_2, 1, none⟩)) rfl (fa_blk (o := 0) Fd133_1 Sz3)) ?_
        refine g_val (((n_Lines.getD i default).src) == (a : Int)) (gy_t rfl) (fun hg => x_ld (p := .pointer (some ⟨b_2, 1, none⟩)) (v := I ((n_Lines.getD i default).dst)) (gd_of (c := ((n_Lines.getD i default).src) == (a : Int)) hg (.pointer (some ⟨b_2, 1, none⟩))) (ldb_sc Sc3 (H.blk (k := 0) rfl) rfl)) ?_
        refine g_val (((n_Lines.getD i default).src) == (a : Int)) (gy_t rfl) (fun hg => x_mv (v := I (b : Int)) rfl) ?_
        refine g_val (((n_Lines.getD i default).src) == (a : Int)) (gy_t rfl) (fun hg => x_cmp (kd := .i64) (a := (n_Lines.getD i default).dst) (b := (b : Int)) (r := ((n_Lines.getD i default).dst) == (b : Int)) (gd_of (c := ((n_Lines.getD i default).src) == (a : Int)) hg (I ((n_Lines.getD i default).dst))) (gd_of (c := ((n_Lines.getD i default).src) == (a : Int)) hg (I (b : Int))) rfl) ?_
        refine s_val (x_pand (b := ((n_Lines.getD i default).src) == (a : Int)) (r := ((n_Lines.getD i default).dst) == (b : Int)) rfl (fun hb => gd_of (c := ((n_Lines.getD i default).src) == (a : Int)) (by first | exact hb | (rw [hb]; rfl) | simp_all) (B (((n_Lines.getD i default).dst) == (b : Int)))) rfl) ?_
        refine s_nil ?_
        refine W.cond ((((n_Lines.getD i default).src) == (a : Int)) && (((n_Lines.getD i default).dst) == (b : Int))) rfl (fun c69z => ?_) (fun c69z => ?_)
        ·replace hM := M.e_t hM c69z
         refine W.region rfl ?_
         refine s_val (x_mv (v := I most) rfl) ?_
         refine s_val (x_fa (a := .pointer (some ⟨b_2, 0, none⟩)) (v := .pointer (some ⟨b_2, 3, none⟩)) rfl (fa_blk (o := 0) Fd133_3 Sz3)) ?_
         refine s_val (x_ld (p := .pointer (some ⟨b_2, 3, none⟩)) (v := I ((n_Lines.getD i default).rise)) rfl (ldb_sc Sc3 (H.blk (k := 0) rfl) rfl)) ?_
         refine s_val (x_fa (a := .pointer (some ⟨b_2, 0, none⟩)) (v := .pointer (some ⟨b_2, 4, none⟩)) rfl (fa_blk (o := 0) Fd133_4 Sz3)) ?_
         refine s_val (x_ld (p := .pointer (some ⟨b_2, 4, none⟩)) (v := I ((n_Lines.getD i default).err)) rfl (ldb_sc Sc3 (H.blk (k := 0) rfl) rfl)) ?_
         obtain ⟨sd70z, hM⟩ := M.e_grd hM
         simp only [Bool.and_eq_true, decide_eq_true_eq] at sd70z
         refine s_val (x_ari (a := (n_Lines.getD i default).rise) (b := (n_Lines.getD i default).err) (r := ((n_Lines.getD i default).rise) + ((n_Lines.getD i default).err)) rfl rfl rfl (by omega)) ?_
         refine s_val (x_min (kd := .i64) (a := most) (b := ((n_Lines.getD i default).rise) + ((n_Lines.getD i default).err)) rfl rfl) ?_
         refine s_val (x_as (v := I (min most (((n_Lines.getD i default).rise) + ((n_Lines.getD i default).err)))) rfl) ?_
         refine s_nil ?_
         refine W.seq ?_
         refine W.region rfl ?_
         refine s_val (x_fa (a := .pointer (some ⟨b_2, 0, none⟩)) (v := .pointer (some ⟨b_2, 0, none⟩)) rfl (fa_blk (o := 0) Fd133_0 Sz3)) ?_
         refine s_val (x_ld (p := .pointer (some ⟨b_2, 0, none⟩)) (v := I ((n_Lines.getD i default).src)) rfl (ldb_sc Sc3 (H.blk (k := 0) rfl) rfl)) ?_
         refine s_val (x_mv (v := I (b : Int)) rfl) ?_
         refine s_val (x_cmp (kd := .i64) (a := (n_Lines.getD i default).src) (b := (b : Int)) (r := ((n_Lines.getD i default).src) == (b : Int)) rfl rfl rfl) ?_
         refine s_val (x_mv (v := B (((n_Lines.getD i default).src) == (b : Int))) rfl) ?_
         refine g_val (((n_Lines.getD i default).src) == (b : Int)) (gy_t rfl) (fun hg => x_fa (a := .pointer (some ⟨b_2, 0, none⟩)) (v := .pointer (some ⟨b_2, 1, none⟩)) rfl (fa_blk (o := 0) Fd133_1 Sz3)) ?_
         refine g_val (((n_Lines.getD i default).src) == (b : Int)) (gy_t rfl) (fun hg => x_ld (p := .pointer (some ⟨b_2, 1, none⟩)) (v := I ((n_Lines.getD i default).dst)) (gd_of (c := ((n_Lines.getD i default).src) == (b : Int)) hg (.pointer (some ⟨b_2, 1, none⟩))) (ldb_sc Sc3 (H.blk (k := 0) rfl) rfl)) ?_
         refine g_val (((n_Lines.getD i default).src) == (b : Int)) (gy_t rfl) (fun hg => x_mv (v := I (a : Int)) rfl) ?_
         refine g_val (((n_Lines.getD i default).src) == (b : Int)) (gy_t rfl) (fun hg => x_cmp (kd := .i64) (a := (n_Lines.getD i default).dst) (b := (a : Int)) (r := ((n_Lines.getD i default).dst) == (a : Int)) (gd_of (c := ((n_Lines.getD i default).src) == (b : Int)) hg (I ((n_Lines.getD i default).dst))) (gd_of (c := ((n_Lines.getD i default).src) == (b : Int)) hg (I (a : Int))) rfl) ?_
         refine s_val (x_pand (b := ((n_Lines.getD i default).src) == (b : Int)) (r := ((n_Lines.getD i default).dst) == (a : Int)) rfl (fun hb => gd_of (c := ((n_Lines.getD i default).src) == (b : Int)) (by first | exact hb | (rw [hb]; rfl) | simp_all) (B (((n_Lines.getD i default).dst) == (a : Int)))) rfl) ?_
         refine s_nil ?_
         refine W.cond ((((n_Lines.getD i default).src) == (b : Int)) && (((n_Lines.getD i default).dst) == (a : Int))) rfl (fun c71z => ?_) (fun c71z => ?_)
         ·replace hM := M.e_t hM c71z
          refine W.region rfl ?_
          refine s_val (x_mv (v := I (min most (((n_Lines.getD i default).rise) + ((n_Lines.getD i default).err)))) rfl) ?_
          refine s_val (x_fa (a := .pointer (some ⟨b_2, 0, none⟩)) (v := .pointer (some ⟨b_2, 4, none⟩)) rfl (fa_blk (o := 0) Fd133_4 Sz3)) ?_
          refine s_val (x_ld (p := .pointer (some ⟨b_2, 4, none⟩)) (v := I ((n_Lines.getD i default).err)) rfl (ldb_sc Sc3 (H.blk (k := 0) rfl) rfl)) ?_
          refine s_val (x_fa (a := .pointer (some ⟨b_2, 0, none⟩)) (v := .pointer (some ⟨b_2, 3, none⟩)) rfl (fa_blk (o := 0) Fd133_3 Sz3)) ?_
          refine s_val (x_ld (p := .pointer (some ⟨b_2, 3, none⟩)) (v := I ((n_Lines.getD i default).rise)) rfl (ldb_sc Sc3 (H.blk (k := 0) rfl) rfl)) ?_
          obtain ⟨sd72z, hM⟩ := M.e_grd hM
          simp only [Bool.and_eq_true, decide_eq_true_eq] at sd72z
          refine s_val (x_ari (a := (n_Lines.getD i default).err) (b := (n_Lines.getD i default).rise) (r := ((n_Lines.getD i default).err) - ((n_Lines.getD i default).rise)) rfl rfl rfl (by omega)) ?_
          refine s_val (x_min (kd := .i64) (a := min most (((n_Lines.getD i default).rise) + ((n_Lines.getD i default).err))) (b := ((n_Lines.getD i default).err) - ((n_Lines.getD i default).rise)) rfl rfl) ?_
          refine s_val (x_as (v := I (min (min most (((n_Lines.getD i default).rise) + ((n_Lines.getD i default).err))) (((n_Lines.getD i default).err) - ((n_Lines.getD i default).rise)))) rfl) ?_
          refine s_nil ?_
          refine W.region rfl ?_
          refine s_val (x_mv (v := I (i : Int)) rfl) ?_
          refine s_val (x_ari (a := (i : Int)) (b := 1) (r := (i : Int) + 1) rfl rfl rfl (by omega)) ?_
          refine s_val (x_as (v := I ((i : Int) + 1)) rfl) ?_
          refine s_nil ?_
          exact ⟨m60z, lt61z, min (min most (((n_Lines.getD i default).rise) + ((n_Lines.getD i default).err))) (((n_Lines.getD i default).err) - ((n_Lines.getD i default).rise)), i + 1, _, upds_of _ _ ⟨rfl, rfl, rfl, rfl, rfl, rfl, rfl, trivial⟩, M.e_inl hM hN63z, (H.pick [1, 2, 3] (by decide) rfl)⟩
         ·replace hM := M.e_f hM c71z
          refine W.skip ?_
          refine W.region rfl ?_
          refine s_val (x_mv (v := I (i : Int)) rfl) ?_
          refine s_val (x_ari (a := (i : Int)) (b := 1) (r := (i : Int) + 1) rfl rfl rfl (by omega)) ?_
          refine s_val (x_as (v := I ((i : Int) + 1)) rfl) ?_
          refine s_nil ?_
          exact ⟨m60z, lt61z, min most (((n_Lines.getD i default).rise) + ((n_Lines.getD i default).err)), i + 1, _, upds_of _ _ ⟨rfl, rfl, rfl, rfl, rfl, rfl, rfl, trivial⟩, M.e_inl hM hN63z, (H.pick [1, 2, 3] (by decide) rfl)⟩
        ·replace hM := M.e_f hM c69z
         refine W.skip ?_
         refine W.seq ?_
         refine W.region rfl ?_
         refine s_val (x_fa (a := .pointer (some ⟨b_2, 0, none⟩)) (v := .pointer (some ⟨b_2, 0, none⟩)) rfl (fa_blk (o := 0) Fd133_0 Sz3)) ?_
         refine s_val (x_ld (p := .pointer (some ⟨b_2, 0, none⟩)) (v := I ((n_Lines.getD i default).src)) rfl (ldb_sc Sc3 (H.blk (k := 0) rfl) rfl)) ?_
         refine s_val (x_mv (v := I (b : Int)) rfl) ?_
         refine s_val (x_cmp (kd := .i64) (a := (n_Lines.getD i default).src) (b := (b : Int)) (r := ((n_Lines.getD i default).src) == (b : Int)) rfl rfl rfl) ?_
         refine s_val (x_mv (v := B (((n_Lines.getD i default).src) == (b : Int))) rfl) ?_
         refine g_val (((n_Lines.getD i default).src) == (b : Int)) (gy_t rfl) (fun hg => x_fa (a := .pointer (some ⟨b_2, 0, none⟩)) (v := .pointer (some ⟨b_2, 1, none⟩)) rfl (fa_blk (o := 0) Fd133_1 Sz3)) ?_
         refine g_val (((n_Lines.getD i default).src) == (b : Int)) (gy_t rfl) (fun hg => x_ld (p := .pointer (some ⟨b_2, 1, none⟩)) (v := I ((n_Lines.getD i default).dst)) (gd_of (c := ((n_Lines.getD i default).src) == (b : Int)) hg (.pointer (some ⟨b_2, 1, none⟩))) (ldb_sc Sc3 (H.blk (k := 0) rfl) rfl)) ?_
         refine g_val (((n_Lines.getD i default).src) == (b : Int)) (gy_t rfl) (fun hg => x_mv (v := I (a : Int)) rfl) ?_
         refine g_val (((n_Lines.getD i default).src) == (b : Int)) (gy_t rfl) (fun hg => x_cmp (kd := .i64) (a := (n_Lines.getD i default).dst) (b := (a : Int)) (r := ((n_Lines.getD i default).dst) == (a : Int)) (gd_of (c := ((n_Lines.getD i default).src) == (b : Int)) hg (I ((n_Lines.getD i default).dst))) (gd_of (c := ((n_Lines.getD i default).src) == (b : Int)) hg (I (a : Int))) rfl) ?_
         refine s_val (x_pand (b := ((n_Lines.getD i default).src) == (b : Int)) (r := ((n_Lines.getD i default).dst) == (a : Int)) rfl (fun hb => gd_of (c := ((n_Lines.getD i default).src) == (b : Int)) (by first | exact hb | (rw [hb]; rfl) | simp_all) (B (((n_Lines.getD i default).dst) == (a : Int)))) rfl) ?_
         refine s_nil ?_
         refine W.cond ((((n_Lines.getD i default).src) == (b : Int)) && (((n_Lines.getD i default).dst) == (a : Int))) rfl (fun c73z => ?_) (fun c73z => ?_)
         ·replace hM := M.e_t hM c73z
          refine W.region rfl ?_
          refine s_val (x_mv (v := I most) rfl) ?_
          refine s_val (x_fa (a := .pointer (some ⟨b_2, 0, none⟩)) (v := .pointer (some ⟨b_2, 4, none⟩)) rfl (fa_blk (o := 0) Fd133_4 Sz3)) ?_
          refine s_val (x_ld (p := .pointer (some ⟨b_2, 4, none⟩)) (v := I ((n_Lines.getD i default).err)) rfl (ldb_sc Sc3 (H.blk (k := 0) rfl) rfl)) ?_
          refine s_val (x_fa (a := .pointer (some ⟨b_2, 0, none⟩)) (v := .pointer (some ⟨b_2, 3, none⟩)) rfl (fa_blk (o := 0) Fd133_3 Sz3)) ?_
          refine s_val (x_ld (p := .pointer (some ⟨b_2, 3, none⟩)) (v := I ((n_Lines.getD i default).rise)) rfl (ldb_sc Sc3 (H.blk (k := 0) rfl) rfl)) ?_
          obtain ⟨sd74z, hM⟩ := M.e_grd hM
          simp only [Bool.and_eq_true, decide_eq_true_eq] at sd74z
          refine s_val (x_ari (a := (n_Lines.getD i default).err) (b := (n_Lines.getD i default).rise) (r := ((n_Lines.getD i default).err) - ((n_Lines.getD i default).rise)) rfl rfl rfl (by omega)) ?_
          refine s_val (x_min (kd := .i64) (a := most) (b := ((n_Lines.getD i default).err) - ((n_Lines.getD i default).rise)) rfl rfl) ?_
          refine s_val (x_as (v := I (min most (((n_Lines.getD i default).err) - ((n_Lines.getD i default).rise)))) rfl) ?_
          refine s_nil ?_
          refine W.region rfl ?_
          refine s_val (x_mv (v := I (i : Int)) rfl) ?_
          refine s_val (x_ari (a := (i : Int)) (b := 1) (r := (i : Int) + 1) rfl rfl rfl (by omega)) ?_
          refine s_val (x_as (v := I ((i : Int) + 1)) rfl) ?_
          refine s_nil ?_
          exact ⟨m60z, lt61z, min most (((n_Lines.getD i default).err) - ((n_Lines.getD i default).rise)), i + 1, _, upds_of _ _ ⟨rfl, rfl, rfl, rfl, rfl, rfl, rfl, trivial⟩, M.e_inl hM hN63z, (H.pick [1, 2, 3] (by decide) rfl)⟩
         ·replace hM := M.e_f hM c73z
          refine W.skip ?_
          refine W.region rfl ?_
          refine s_val (x_mv (v := I (i : Int)) rfl) ?_
          refine s_val (x_ari (a := (i : Int)) (b := 1) (r := (i : Int) + 1) rfl rfl rfl (by omega)) ?_
          refine s_val (x_as (v := I ((i : Int) + 1)) rfl) ?_
          refine s_nil ?_
          exact ⟨m60z, lt61z, most, i + 1, _, upds_of _ _ ⟨rfl, rfl, rfl, rfl, rfl, rfl, rfl, trivial⟩, M.e_inl hM hN63z, (H.pick [1, 2, 3] (by decide) rfl)⟩
       ·replace hM := M.e_f hM c65z
        simp only [decide_eq_true_eq, decide_eq_false_iff_not, beq_iff_eq, bne_iff_ne, beq_eq_false_iff_ne, bne_eq_false_iff_eq, ne_eq, Decidable.not_not] at c65z
        refine W.exit ?_
        have hX75z := M.e_inr hM hN63z
        subst hX75z
        replace hM := hk56z
        try dsimp only at hM
        refine W.region rfl ?_
        refine s_val (x_mv (v := v_l) rfl) ?_
        refine s_val (x_mv (v := I most) rfl) ?_
        refine t_bs (α := Int) T26 [I most] [(most : Int)] H rfl (.cons rfl (Flat.rep_enc _ (most : Int)) <| .nil) rfl rfl rfl ?_
        intro v76z w77z H
        obtain ⟨sd78z, hM⟩ := M.e_grd hM
        simp only [Bool.and_eq_true, decide_eq_true_eq] at sd78z
        refine t_app (α := Int) (k := 1) (l := l) (l2 := [(most : Int)]) (l' := l ++ ([(most : Int)])) (vy := v76z) T26 rfl H rfl rfl rfl (ownSl (H.get (k := 0) rfl)) (ownLe _ (H.get (k := 0) rfl)) (rfl) (by first | omega | (simp only [List.length_nil] at *; omega)) ?_
        intro v79z w80z H
        replace H : St w w80z [cOwn (α := Int) 3 v76z ([(most : Int)]), cOwn (α := Int) 3 v79z (l ++ ([(most : Int)])), cMat (α := Int) 26 3 v_l4 us_l4 l4, cBlk b_1 [I n_Marks, v_n_Lines] 64] R := H
        refine s_val (x_as (v := v79z) rfl) ?_
        refine s_nil ?_
        refine W.region rfl ?_
        refine s_val (x_mv (v := I (b : Int)) rfl) ?_
        obtain ⟨sd81z, hM⟩ := M.e_grd hM
        simp only [Bool.and_eq_true, decide_eq_true_eq] at sd81z
        refine s_val (x_ari (a := (b : Int)) (b := 1) (r := (b : Int) + 1) rfl rfl rfl (by omega)) ?_
        refine s_val (x_as (v := I ((b : Int) + 1)) rfl) ?_
        refine s_nil ?_
        exact ⟨m20z, lt21z, b + 1, l ++ ([(most : Int)]), v79z, _, upds_of _ _ ⟨rfl, rfl, rfl, rfl, rfl, trivial⟩, M.e_inl hM hN23z, (H.pick [1, 2, 3] (by decide) rfl)⟩
    ·replace hM := M.e_f hM c24z
     simp only [decide_eq_true_eq, decide_eq_false_iff_not, beq_iff_eq, bne_iff_ne, beq_eq_false_iff_ne, bne_eq_false_iff_eq, ne_eq, Decidable.not_not] at c24z
     refine W.exit ?_
     have hX82z := M.e_inr hM hN23z
     subst hX82z
     replace hM := hk16z
     try dsimp only at hM
     refine W.region rfl ?_
     refine s_val (x_mv (v := v_l4) rfl) ?_
     refine s_val (x_mv (v := v_l) rfl) ?_
     have one83z := sl_one (ownSl (H.get (k := 0) rfl))
     refine t_bs (α := SV) T142 [v_l] [(⟨v_l, one83z⟩ : SV)] H rfl (.cons (oneCell_cells one83z) rfl <| .nil) rfl rfl rfl ?_
     intro v84z w85z H
     replace H : St w w85z [cOwn (α := SV) 26 v84z ([(⟨v_l, one83z⟩ : SV)]), cOwn (α := Int) 3 v_l l, cMat (α := Int) 26 3 v_l4 us_l4 l4, cBlk b_1 [I n_Marks, v_n_Lines] 64] R := H
     obtain ⟨sd86z, hM⟩ := M.e_grd hM
     simp only [Bool.and_eq_true, decide_eq_true_eq] at sd86z
     replace H : St w w85z [cMat (α := Int) 26 3 v_l4 us_l4 l4, cOwn (α := Int) 3 v_l l, cOwn (α := SV) 26 v84z ([(⟨v_l, one83z⟩ : SV)]), cBlk b_1 [I n_Marks, v_n_Lines] 64] R := H.pick [2, 1, 0, 3] (by decide) rfl
     refine t_matapp (T := l4) (row := l) (sv := (⟨v_l, one83z⟩ : SV)) T142 rfl H hus_l4 rfl rfl rfl (ownSl (H.get (k := 2) rfl)) (ownLe _ (H.get (k := 2) rfl)) (by first | omega | (simp only [List.length_nil] at *; omega)) ?_
     intro v87z w88z H
     replace H : St w w88z [cMat (α := Int) 26 3 v87z (us_l4 ++ [(⟨v_l, one83z⟩ : SV)]) (l4 ++ [l]), cOwn (α := SV) 26 v84z ([(⟨v_l, one83z⟩ : SV)]), cBlk b_1 [I n_Marks, v_n_Lines] 64] R := H
     have hus89z : (us_l4 ++ [(⟨v_l, one83z⟩ : SV)]).length = (l4 ++ [l]).length := by simp only [List.length_append, List.length_cons, List.length_nil, hus_l4]
     refine s_val (x_as (v := v87z) rfl) ?_
     refine s_nil ?_
     refine W.region rfl ?_
     refine s_val (x_mv (v := I (a : Int)) rfl) ?_
     obtain ⟨sd90z, hM⟩ := M.e_grd hM
     simp only [Bool.and_eq_true, decide_eq_true_eq] at sd90z
     refine s_val (x_ari (a := (a : Int)) (b := 1) (r := (a : Int) + 1) rfl rfl rfl (by omega)) ?_
     refine s_val (x_as (v := I ((a : Int) + 1)) rfl) ?_
     refine s_nil ?_
     exact ⟨m9z, lt10z, a + 1, l4 ++ [l], v87z, us_l4 ++ [(⟨v_l, one83z⟩ : SV)], _, upds_of _ _ ⟨rfl, rfl, rfl, trivial⟩, M.e_inl hM hN12z, (H.pick [0, 2] (by decide) rfl), hus89z⟩
  ·replace hM := M.e_f hM c13z
   simp only [decide_eq_true_eq, decide_eq_false_iff_not, beq_iff_eq, bne_iff_ne, beq_eq_false_iff_ne, bne_eq_false_iff_eq, ne_eq, Decidable.not_not] at c13z
   refine W.exit ?_
   have hX91z := M.e_inr hM hN12z
   subst hX91z
   replace hM := hk5z
   try dsimp only at hM
   refine W.seq ?_
   refine W.seq ?_
   refine W.region rfl ?_
   refine s_val (x_as (v := I 0) rfl) ?_
   refine s_nil ?_
   refine W.block ?_
   obtain ⟨ex92z, hi93z, hk94z⟩ := M.e_bind hM
   obtain ⟨m0_, hi93z⟩ := M.e_iter hi93z
   refine W.loop (fun m σ W => ∃ (l13 : List (List Int)) (k : Nat) (v_l13 : Value) (us_l13 : List SV) (ρ : Env), σ = upds ρ [(1, .pointer (some ⟨b_1, 0, none⟩)), (3, v_l13), (10, I (k : Int))] /\ M.iterN (m_nilometerref01_table_b28 n_Marks) m (l13, k) = some ex92z /\ St w W [cMat (α := Int) 26 3 v_l13 us_l13 l13, cBlk b_1 [I n_Marks, v_n_Lines] 64] R /\ us_l13.length = l13.length) ?_ ?_
   ·exact ⟨_, l4, 0, v_l4, us_l4, _, upds_of _ _ ⟨rfl, rfl, rfl, trivial⟩, hi93z, H, hus_l4⟩
   ·rintro m97z σ w95z ⟨l13, k, v_l13, us_l13, ρ, rfl, hI96z, H, hus_l13⟩
    obtain ⟨m98z, lt99z, x100z, hM, hN101z⟩ := M.e_iterN hI96z
    simp only [m_nilometerref01_table_b28] at hM
    clear hI96z
    refine W.seq ?_
    refine W.seq ?_
    refine W.region rfl ?_
    refine s_val (x_mv (v := I (k : Int)) rfl) ?_
    refine s_val (x_fa (a := .pointer (some ⟨b_1, 0, none⟩)) (v := .pointer (some ⟨b_1, 0, none⟩)) rfl (fa_blk (o := 0) Fd64_0 Sz3)) ?_
    refine s_val (x_ld (p := .pointer (some ⟨b_1, 0, none⟩)) (v := I n_Marks) rfl (ldb_sc Sc3 (H.blk (k := 1) rfl) rfl)) ?_
    refine s_val (x_cmp (kd := .i64) (a := (k : Int)) (b := n_Marks) (r := decide ((k : Int) < n_Marks)) rfl rfl rfl) ?_
    refine s_nil ?_
    refine W.cond (decide ((k : Int) < n_Marks)) rfl (fun c102z => ?_) (fun c102z => ?_)
    ·replace hM := M.e_t hM c102z
     simp only [decide_eq_true_eq, decide_eq_false_iff_not, beq_iff_eq, bne_iff_ne, beq_eq_false_iff_ne, bne_eq_false_iff_eq, ne_eq, Decidable.not_not] at c102z
     refine W.skip ?_
     refine W.seq ?_
     refine W.block ?_
     refine W.seq ?_
     refine W.region rfl ?_
     refine s_val (x_as (v := I 0) rfl) ?_
     refine s_nil ?_
     refine W.block ?_
     obtain ⟨ex103z, hi104z, hk105z⟩ := M.e_bind hM
     obtain ⟨m0_, hi104z⟩ := M.e_iter hi104z
     refine W.loop (fun m σ W => ∃ (l10 : List (List Int)) (a2 : Nat) (v_l10 : Value) (us_l10 : List SV) (ρ : Env), σ = upds ρ [(1, .pointer (some ⟨b_1, 0, none⟩)), (3, v_l10), (10, I (k : Int)), (11, I (a2 : Int))] /\ M.iterN (m_nilometerref01_table_b27 n_Marks k) m (l10, a2) = some ex103z /\ St w W [cMat (α := Int) 26 3 v_l10 us_l10 l10, cBlk b_1 [I n_Marks, v_n_Lines] 64] R /\ us_l10.length = l10.length) ?_ ?_
     ·exact ⟨_, l13, 0, v_l13, us_l13, _, upds_of _ _ ⟨rfl, rfl, rfl, rfl, trivial⟩, hi104z, H, hus_l13⟩
     ·rintro m108z σ w106z ⟨l10, a2, v_l10, us_l10, ρ, rfl, hI107z, H, hus_l10⟩
      obtain ⟨m109z, lt110z, x111z, hM, hN112z⟩ := M.e_iterN hI107z
      simp only [m_nilometerref01_table_b27] at hM
      clear hI107z
      refine W.seq ?_
      refine W.seq ?_
      refine W.region rfl ?_
      refine s_val (x_mv (v := I (a2 : Int)) rfl) ?_
      refine s_val (x_fa (a := .pointer (some ⟨b_1, 0, none⟩)) (v := .pointer (some ⟨b_1, 0, none⟩)) rfl (fa_blk (o := 0) Fd64_0 Sz3)) ?_
      refine s_val (x_ld (p := .pointer (some ⟨b_1, 0, none⟩)) (v := I n_Marks) rfl (ldb_sc Sc3 (H.blk (k := 1) rfl) rfl)) ?_
      refine s_val (x_cmp (kd := .i64) (a := (a2 : Int)) (b := n_Marks) (r := decide ((a2 : Int) < n_Marks)) rfl rfl rfl) ?_
      refine s_nil ?_
      refine W.cond (decide ((a2 : Int) < n_Marks)) rfl (fun c113z => ?_) (fun c113z => ?_)
      ·replace hM := M.e_t hM c113z
       simp only [decide_eq_true_eq, decide_eq_false_iff_not, beq_iff_eq, bne_iff_ne, beq_eq_false_iff_ne, bne_eq_false_iff_eq, ne_eq, Decidable.not_not] at c113z
       refine W.skip ?_
       refine W.seq ?_
       refine W.block ?_
       refine W.seq ?_
       refine W.region rfl ?_
       refine s_val (x_as (v := I 0) rfl) ?_
       refine s_nil ?_
       refine W.block ?_
       obtain ⟨ex114z, hi115z, hk116z⟩ := M.e_bind hM
       obtain ⟨m0_, hi115z⟩ := M.e_iter hi115z
       refine W.loop (fun m σ W => ∃ (l7 : List (List Int)) (b2 : Nat) (v_l7 : Value) (us_l7 : List SV) (ρ : Env), σ = upds ρ [(1, .pointer (some ⟨b_1, 0, none⟩)), (3, v_l7), (10, I (k : Int)), (11, I (a2 : Int)), (12, I (b2 : Int))] /\ M.iterN (m_nilometerref01_table_b26 n_Marks k a2) m (l7, b2) = some ex114z /\ St w W [cMat (α := Int) 26 3 v_l7 us_l7 l7, cBlk b_1 [I n_Marks, v_n_Lines] 64] R /\ us_l7.length = l7.length) ?_ ?_
       ·exact ⟨_, l10, 0, v_l10, us_l10, _, upds_of _ _ ⟨rfl, rfl, rfl, rfl, rfl, trivial⟩, hi115z, H, hus_l10⟩
       ·rintro m119z σ w117z ⟨l7, b2, v_l7, us_l7, ρ, rfl, hI118z, H, hus_l7⟩
        obtain ⟨m120z, lt121z, x122z, hM, hN123z⟩ := M.e_iterN hI118z
        simp only [m_nilometerref01_table_b26] at hM
        clear hI118z
        refine W.seq ?_
        refine W.seq ?_
        refine W.region rfl ?_
        refine s_val (x_mv (v := I (b2 : Int)) rfl) ?_
        refine s_val (x_fa (a := .pointer (some ⟨b_1, 0, none⟩)) (v := .pointer (some ⟨b_1, 0, none⟩)) rfl (fa_blk (o := 0) Fd64_0 Sz3)) ?_
        refine s_val (x_ld (p := .pointer (some ⟨b_1, 0, none⟩)) (v := I n_Marks) rfl (ldb_sc Sc3 (H.blk (k := 1) rfl) rfl)) ?_
        refine s_val (x_cmp (kd := .i64) (a := (b2 : Int)) (b := n_Marks) (r := decide ((b2 : Int) < n_Marks)) rfl rfl rfl) ?_
        refine s_nil ?_
        refine W.cond (decide ((b2 : Int) < n_Marks)) rfl (fun c124z => ?_) (fun c124z => ?_)
        ·replace hM := M.e_t hM c124z
         simp only [decide_eq_true_eq, decide_eq_false_iff_not, beq_iff_eq, bne_iff_ne, beq_eq_false_iff_ne, bne_eq_false_iff_eq, ne_eq, Decidable.not_not] at c124z
         refine W.skip ?_
         refine W.seq ?_
         refine W.block ?_
         refine W.seq ?_
         refine W.region rfl ?_
         refine s_val (x_mv (v := v_l7) rfl) ?_
         refine s_val (x_mv (v := I (a2 : Int)) rfl) ?_
         obtain ⟨sd125z, hM⟩ := M.e_grd hM
         simp only [Bool.and_eq_true, decide_eq_true_eq] at sd125z
         refine s_val (x_ix (a := v_l7) (b := I (a2 : Int)) (v := vat v_l7 1 (Int.toNat (a2 : Int))) rfl rfl (Sl.ix (α := SV) T142.und T142.size (ownSl (matOuter (H.get (k := 0) rfl))) (by have hu_ := hus_l7; omega) (by have hu_ := hus_l7; omega))) ?_
         refine s_val (x_ld (p := vat v_l7 1 (Int.toNat (a2 : Int))) (v := ((us_l7).getD a2 default).v) rfl (ld_sc Sc26 (At.mono (matCells (i := (a2 : Int)) (H.get (k := 0) rfl) hus_l7 (by have hu_ := hus_l7; omega) (by have hu_ := hus_l7; omega)) (ownLe _ (matOuter (H.get (k := 0) rfl)))))) ?_
         refine s_val (x_mv (v := I (k : Int)) rfl) ?_
         obtain ⟨sd126z, hM⟩ := M.e_grd hM
         simp only [Bool.and_eq_true, decide_eq_true_eq] at sd126z
         refine s_val (x_ix (a := (((us_l7).getD a2 default).v)) (b := I (k : Int)) (v := vat (((us_l7).getD a2 default).v) 1 (Int.toNat (k : Int))) rfl rfl (Sl.ix (α := Int) T26.und T26.size (ownSl (matRow (H.get (k := 0) rfl) hus_l7 (by have hu_ := hus_l7; omega))) (by omega) (by omega))) ?_
         refine s_val (x_ld (p := vat (((us_l7).getD a2 default).v) 1 (Int.toNat (k : Int))) (v := I ((l7.getD a2 ([])).getD k 0)) rfl (ld_sc Sc3 (At.mono (Int_at (ownSl (matRow (H.get (k := 0) rfl) hus_l7 (by have hu_ := hus_l7; omega))) (i := (k : Int)) (by omega) (by omega)) (ownLe _ (matRow (H.get (k := 0) rfl) hus_l7 (by have hu_ := hus_l7; omega)))))) ?_
         refine s_val (x_cmp (kd := .i64) (a := (l7.getD a2 ([])).getD k 0) (b := 1000000000000) (r := decide (((l7.getD a2 ([])).getD k 0) < 1000000000000)) rfl rfl rfl) ?_
         refine s_val (x_mv (v := B (decide (((l7.getD a2 ([])).getD k 0) < 1000000000000))) rfl) ?_
         refine g_val (decide (((l7.getD a2 ([])).getD k 0) < 1000000000000)) (gy_t rfl) (fun hg => x_mv (v := v_l7) rfl) ?_
         refine g_val (decide (((l7.getD a2 ([])).getD k 0) < 1000000000000)) (gy_t rfl) (fun hg => x_mv (v := I (k : Int)) rfl) ?_
         obtain ⟨sd127z, hM⟩ := M.e_grd hM
         replace sd127z := M.imp_of sd127z
         simp only [Bool.and_eq_true, decide_eq_true_eq] at sd127z
         refine g_val (decide (((l7.getD a2 ([])).getD k 0) < 1000000000000)) (gy_t rfl) (fun hg => x_ix (a := v_l7) (b := I (k : Int)) (v := vat v_l7 1 (Int.toNat (k : Int))) (gd_of (c := decide (((l7.getD a2 ([])).getD k 0) < 1000000000000)) hg (v_l7)) (gd_of (c := decide (((l7.getD a2 ([])).getD k 0) < 1000000000000)) hg (I (k : Int))) (Sl.ix (α := SV) T142.und T142.size (ownSl (matOuter (H.get (k := 0) rfl))) (by have hu_ := hus_l7; have h1_ := sd127z.resolve_left (by rw [hg]; decide); first | exact h1_ | exact h1_.1 | exact h1_.2 | omega | (have hx_ := hg; simp at hx_; omega)) (by have hu_ := hus_l7; have h1_ := sd127z.resolve_left (by rw [hg]; decide); first | exact h1_ | exact h1_.1 | exact h1_.2 | omega | (have hx_ := hg; simp at hx_; omega)))) ?_
         refine g_val (decide (((l7.getD a2 ([])).getD k 0) < 1000000000000)) (gy_t rfl) (fun hg => x_ld (p := vat v_l7 1 (Int.toNat (k : Int))) (v := ((us_l7).getD k default).v) (gd_of (c := decide (((l7.getD a2 ([])).getD k 0) < 1000000000000)) hg (vat v_l7 1 (Int.toNat (k : Int)))) (ld_sc Sc26 (At.mono (matCells (i := (k : Int)) (H.get (k := 0) rfl) hus_l7 (by have hu_ := hus_l7; have h1_ := sd127z.resolve_left (by rw [hg]; decide); first | exact h1_ | exact h1_.1 | exact h1_.2 | omega | (have hx_ := hg; simp at hx_; omega)) (by have hu_ := hus_l7; have h1_ := sd127z.resolve_left (by rw [hg]; decide); first | exact h1_ | exact h1_.1 | exact h1_.2 | omega | (have hx_ := hg; simp at hx_; omega))) (ownLe _ (matOuter (H.get (k := 0) rfl)))))) ?_
         refine g_val (decide (((l7.getD a2 ([])).getD k 0) < 1000000000000)) (gy_t rfl) (fun hg => x_mv (v := I (b2 : Int)) rfl) ?_
         obtain ⟨sd128z, hM⟩ := M.e_grd hM
         replace sd128z := M.imp_of sd128z
         simp only [Bool.and_eq_true, decide_eq_true_eq] at sd128z
         refine g_val (decide (((l7.getD a2 ([])).getD k 0) < 1000000000000)) (gy_t rfl) (fun hg => x_ix (a := (((us_l7).getD k default).v)) (b := I (b2 : Int)) (v := vat (((us_l7).getD k default).v) 1 (Int.toNat (b2 : Int))) (gd_of (c := decide (((l7.getD a2 ([])).getD k 0) < 1000000000000)) hg (((us_l7).getD k default).v)) (gd_of (c := decide (((l7.getD a2 ([])).getD k 0) < 1000000000000)) hg (I (b2 : Int))) (Sl.ix (α := Int) T26.und T26.size (ownSl (matRow (H.get (k := 0) rfl) hus_l7 (by have hu_ := hus_l7; have h1_ := sd127z.resolve_left (by rw [hg]; decide); have h2_ := sd128z.resolve_left (by rw [hg]; decide); first | exact h1_ | exact h1_.1 | exact h1_.2 | exact h2_ | exact h2_.1 | exact h2_.2 | omega | (have hx_ := hg; simp at hx_; omega)))) (by have h1_ := sd127z.resolve_left (by rw [hg]; decide); have h2_ := sd128z.resolve_left (by rw [hg]; decide); first | exact h1_ | exact h1_.1 | exact h1_.2 | exact h2_ | exact h2_.1 | exact h2_.2 | omega | (have hx_ := hg; simp at hx_; omega)) (by have h1_ := sd127z.resolve_left (by rw [hg]; decide); have h2_ := sd128z.resolve_left (by rw [hg]; decide); first | exact h1_ | exact h1_.1 | exact h1_.2 | exact h2_ | exact h2_.1 | exact h2_.2 | omega | (have hx_ := hg; simp at hx_; omega)))) ?_
         refine g_val (decide (((l7.getD a2 ([])).getD k 0) < 1000000000000)) (gy_t rfl) (fun hg => x_ld (p := vat (((us_l7).getD k default).v) 1 (Int.toNat (b2 : Int))) (v := I ((l7.getD k ([])).getD b2 0)) (gd_of (c := decide (((l7.getD a2 ([])).getD k 0) < 1000000000000)) hg (vat (((us_l7).getD k default).v) 1 (Int.toNat (b2 : Int)))) (ld_sc Sc3 (At.mono (Int_at (ownSl (matRow (H.get (k := 0) rfl) hus_l7 (by have hu_ := hus_l7; have h1_ := sd127z.resolve_left (by rw [hg]; decide); have h2_ := sd128z.resolve_left (by rw [hg]; decide); first | exact h1_ | exact h1_.1 | exact h1_.2 | exact h2_ | exact h2_.1 | exact h2_.2 | omega | (have hx_ := hg; simp at hx_; omega)))) (i := (b2 : Int)) (by have h1_ := sd127z.resolve_left (by rw [hg]; decide); have h2_ := sd128z.resolve_left (by rw [hg]; decide); first | exact h1_ | exact h1_.1 | exact h1_.2 | exact h2_ | exact h2_.1 | exact h2_.2 | omega | (have hx_ := hg; simp at hx_; omega)) (by have h1_ := sd127z.resolve_left (by rw [hg]; decide); have h2_ := sd128z.resolve_left (by rw [hg]; decide); first | exact h1_ | exact h1_.1 | exact h1_.2 | exact h2_ | exact h2_.1 | exact h2_.2 | omega | (have hx_ := hg; simp at hx_; omega))) (ownLe _ (matRow (H.get (k := 0) rfl) hus_l7 (by have hu_ := hus_l7; have h1_ := sd127z.resolve_left (by rw [hg]; decide); have h2_ := sd128z.resolve_left (by rw [hg]; decide); first | exact h1_ | exact h1_.1 | exact h1_.2 | exact h2_ | exact h2_.1 | exact h2_.2 | omega | (have hx_ := hg; simp at hx_; omega))))))) ?_
         refine g_val (decide (((l7.getD a2 ([])).getD k 0) < 1000000000000)) (gy_t rfl) (fun hg => x_cmp (kd := .i64) (a := (l7.getD k ([])).getD b2 0) (b := 1000000000000) (r := decide (((l7.getD k ([])).getD b2 0) < 1000000000000)) (gd_of (c := decide (((l7.getD a2 ([])).getD k 0) < 1000000000000)) hg (I ((l7.getD k ([])).getD b2 0))) rfl rfl) ?_
         refine s_val (x_pand (b := decide (((l7.getD a2 ([])).getD k 0) < 1000000000000)) (r := decide (((l7.getD k ([])).getD b2 0) < 1000000000000)) rfl (fun hb => gd_of (c := decide (((l7.getD a2 ([])).getD k 0) < 1000000000000)) (by first | exact hb | (rw [hb]; rfl) | simp_all) (B (decide (((l7.getD k ([])).getD b2 0) < 1000000000000)))) rfl) ?_
         refine s_nil ?_
         refine W.cond ((decide (((l7.getD a2 ([])).getD k 0) < 1000000000000)) && (decide (((l7.getD k ([])).getD b2 0) < 1000000000000))) rfl (fun c129z => ?_) (fun c129z => ?_)
         ·replace hM := M.e_t hM c129z
          refine W.drawZ (fun W => St w W [cMat (α := Int) 26 3 v_l7 us_l7 l7, cBlk b_1 [I n_Marks, v_n_Lines] 64] R) [0, 1, 2, 3, 4, 5, 6, 7, 8, 9, 10, 11, 12, 13, 14, 15, 16, 17, 18, 19, 20, 21, 22, 23, 24, 25, 26, 27, 28, 29] 30 mixed (by decide +kernel) rfl ?_
          intro w130z hx_
          replace H : St w w130z [cMat (α := Int) 26 3 v_l7 us_l7 l7, cBlk b_1 [I n_Marks, v_n_Lines] 64] R := H.ext hx_
          clear hx_
          refine ⟨H, ?_⟩
          refine z_q rfl (fun w' H => x_mv (v := v_l7) rfl) ?_
          refine z_q rfl (fun w' H => x_mv (v := I (a2 : Int)) rfl) ?_
          refine z_q rfl (fun w' H => x_ix (a := v_l7) (b := I (a2 : Int)) (v := vat v_l7 1 (Int.toNat (a2 : Int))) rfl rfl (Sl.ix (α := SV) T142.und T142.size (ownSl (matOuter (H.get (k := 0) rfl))) (by have hu_ := hus_l7; omega) (by have hu_ := hus_l7; omega))) ?_
          refine z_q rfl (fun w' H => x_ld (p := vat v_l7 1 (Int.toNat (a2 : Int))) (v := ((us_l7).getD a2 default).v) rfl (ld_sc Sc26 (At.mono (matCells (i := (a2 : Int)) (H.get (k := 0) rfl) hus_l7 (by have hu_ := hus_l7; omega) (by have hu_ := hus_l7; omega)) (ownLe _ (matOuter (H.get (k := 0) rfl)))))) ?_
          refine z_q rfl (fun w' H => x_mv (v := I (b2 : Int)) rfl) ?_
          refine z_q rfl (fun w' H => x_mv (v := v_l7) rfl) ?_
          refine z_q rfl (fun w' H => x_mv (v := I (a2 : Int)) rfl) ?_
          refine z_q rfl (fun w' H => x_ix (a := v_l7) (b := I (a2 : Int)) (v := vat v_l7 1 (Int.toNat (a2 : Int))) rfl rfl (Sl.ix (α := SV) T142.und T142.size (ownSl (matOuter (H.get (k := 0) rfl))) (by have hu_ := hus_l7; omega) (by have hu_ := hus_l7; omega))) ?_
          refine z_q rfl (fun w' H => x_ld (p := vat v_l7 1 (Int.toNat (a2 : Int))) (v := ((us_l7).getD a2 default).v) rfl (ld_sc Sc26 (At.mono (matCells (i := (a2 : Int)) (H.get (k := 0) rfl) hus_l7 (by have hu_ := hus_l7; omega) (by have hu_ := hus_l7; omega)) (ownLe _ (matOuter (H.get (k := 0) rfl)))))) ?_
          refine z_q rfl (fun w' H => x_mv (v := I (b2 : Int)) rfl) ?_
          obtain ⟨sd131z, hM⟩ := M.e_grd hM
          simp only [Bool.and_eq_true, decide_eq_true_eq] at sd131z
          refine z_q rfl (fun w' H => x_ix (a := (((us_l7).getD a2 default).v)) (b := I (b2 : Int)) (v := vat (((us_l7).getD a2 default).v) 1 (Int.toNat (b2 : Int))) rfl rfl (Sl.ix (α := Int) T26.und T26.size (ownSl (matRow (H.get (k := 0) rfl) hus_l7 (by have hu_ := hus_l7; omega))) (by omega) (by omega))) ?_
          refine z_q rfl (fun w' H => x_ld (p := vat (((us_l7).getD a2 default).v) 1 (Int.toNat (b2 : Int))) (v := I ((l7.getD a2 ([])).getD b2 0)) rfl (ld_sc Sc3 (At.mono (Int_at (ownSl (matRow (H.get (k := 0) rfl) hus_l7 (by have hu_ := hus_l7; omega))) (i := (b2 : Int)) (by omega) (by omega)) (ownLe _ (matRow (H.get (k := 0) rfl) hus_l7 (by have hu_ := hus_l7; omega)))))) ?_
          refine z_q rfl (fun w' H => x_mv (v := v_l7) rfl) ?_
          refine z_q rfl (fun w' H => x_mv (v := I (a2 : Int)) rfl) ?_
          refine z_q rfl (fun w' H => x_ix (a := v_l7) (b := I (a2 : Int)) (v := vat v_l7 1 (Int.toNat (a2 : Int))) rfl rfl (Sl.ix (α := SV) T142.und T142.size (ownSl (matOuter (H.get (k := 0) rfl))) (by have hu_ := hus_l7; omega) (by have hu_ := hus_l7; omega))) ?_
          refine z_q rfl (fun w' H => x_ld (p := vat v_l7 1 (Int.toNat (a2 : Int))) (v := ((us_l7).getD a2 default).v) rfl (ld_sc Sc26 (At.mono (matCells (i := (a2 : Int)) (H.get (k := 0) rfl) hus_l7 (by have hu_ := hus_l7; omega) (by have hu_ := hus_l7; omega)) (ownLe _ (matOuter (H.get (k := 0) rfl)))))) ?_
          refine z_q rfl (fun w' H => x_mv (v := I (k : Int)) rfl) ?_
          refine z_q rfl (fun w' H => x_ix (a := (((us_l7).getD a2 default).v)) (b := I (k : Int)) (v := vat (((us_l7).getD a2 default).v) 1 (Int.toNat (k : Int))) rfl rfl (Sl.ix (α := Int) T26.und T26.size (ownSl (matRow (H.get (k := 0) rfl) hus_l7 (by have hu_ := hus_l7; omega))) (by omega) (by omega))) ?_
          refine z_q rfl (fun w' H => x_ld (p := vat (((us_l7).getD a2 default).v) 1 (Int.toNat (k : Int))) (v := I ((l7.getD a2 ([])).getD k 0)) rfl (ld_sc Sc3 (At.mono (Int_at (ownSl (matRow (H.get (k := 0) rfl) hus_l7 (by have hu_ := hus_l7; omega))) (i := (k : Int)) (by omega) (by omega)) (ownLe _ (matRow (H.get (k := 0) rfl) hus_l7 (by have hu_ := hus_l7; omega)))))) ?_
          refine z_q rfl (fun w' H => x_mv (v := v_l7) rfl) ?_
          refine z_q rfl (fun w' H => x_mv (v := I (k : Int)) rfl) ?_
          obtain ⟨sd132z, hM⟩ := M.e_grd hM
          simp only [Bool.and_eq_true, decide_eq_true_eq] at sd132z
          refine z_q rfl (fun w' H => x_ix (a := v_l7) (b := I (k : Int)) (v := vat v_l7 1 (Int.toNat (k : Int))) rfl rfl (Sl.ix (α := SV) T142.und T142.size (ownSl (matOuter (H.get (k := 0) rfl))) (by have hu_ := hus_l7; omega) (by have hu_ := hus_l7; omega))) ?_
          refine z_q rfl (fun w' H => x_ld (p := vat v_l7 1 (Int.toNat (k : Int))) (v := ((us_l7).getD k default).v) rfl (ld_sc Sc26 (At.mono (matCells (i := (k : Int)) (H.get (k := 0) rfl) hus_l7 (by have hu_ := hus_l7; omega) (by have hu_ := hus_l7; omega)) (ownLe _ (matOuter (H.get (k := 0) rfl)))))) ?_
          refine z_q rfl (fun w' H => x_mv (v := I (b2 : Int)) rfl) ?_
          obtain ⟨sd133z, hM⟩ := M.e_grd hM
          simp only [Bool.and_eq_true, decide_eq_true_eq] at sd133z
          refine z_q rfl (fun w' H => x_ix (a := (((us_l7).getD k default).v)) (b := I (b2 : Int)) (v := vat (((us_l7).getD k default).v) 1 (Int.toNat (b2 : Int))) rfl rfl (Sl.ix (α := Int) T26.und T26.size (ownSl (matRow (H.get (k := 0) rfl) hus_l7 (by have hu_ := hus_l7; omega))) (by omega) (by omega))) ?_
          refine z_q rfl (fun w' H => x_ld (p := vat (((us_l7).getD k default).v) 1 (Int.toNat (b2 : Int))) (v := I ((l7.getD k ([])).getD b2 0)) rfl (ld_sc Sc3 (At.mono (Int_at (ownSl (matRow (H.get (k := 0) rfl) hus_l7 (by have hu_ := hus_l7; omega))) (i := (b2 : Int)) (by omega) (by omega)) (ownLe _ (matRow (H.get (k := 0) rfl) hus_l7 (by have hu_ := hus_l7; omega)))))) ?_
          obtain ⟨sd134z, hM⟩ := M.e_grd hM
          simp only [Bool.and_eq_true, decide_eq_true_eq] at sd134z
          refine z_q rfl (fun w' H => x_ari (a := (l7.getD a2 ([])).getD k 0) (b := (l7.getD k ([])).getD b2 0) (r := ((l7.getD a2 ([])).getD k 0) + ((l7.getD k ([])).getD b2 0)) rfl rfl rfl (by omega)) ?_
          refine z_q rfl (fun w' H => x_min (kd := .i64) (a := (l7.getD a2 ([])).getD b2 0) (b := ((l7.getD a2 ([])).getD k 0) + ((l7.getD k ([])).getD b2 0)) rfl rfl) ?_
          refine z_q rfl (fun w' H => x_max (kd := .i64) (a := -1000000000000) (b := min ((l7.getD a2 ([])).getD b2 0) (((l7.getD a2 ([])).getD k 0) + ((l7.getD k ([])).getD b2 0))) rfl rfl) ?_
          refine z_q rfl (fun w' H => x_ix (a := (((us_l7).getD a2 default).v)) (b := I (b2 : Int)) (v := vat (((us_l7).getD a2 default).v) 1 (Int.toNat (b2 : Int))) rfl rfl (Sl.ix (α := Int) T26.und T26.size (ownSl (matRow (H.get (k := 0) rfl) hus_l7 (by have hu_ := hus_l7; omega))) (by omega) (by omega))) ?_
          refine z_l rfl ?_
          refine t_matst (k := 0) (i := a2) (j := (b2 : Int)) (T := l7) (T' := l7.set a2 ((l7.getD a2 ([])).set b2 (max (-1000000000000) (min ((l7.getD a2 ([])).getD b2 0) (((l7.getD a2 ([])).getD k 0) + ((l7.getD k ([])).getD b2 0))) : Int))) (L' := [cMat (α := Int) 26 3 v_l7 us_l7 (l7.set a2 ((l7.getD a2 ([])).set b2 (max (-1000000000000) (min ((l7.getD a2 ([])).getD b2 0) (((l7.getD a2 ([])).getD k 0) + ((l7.getD k ([])).getD b2 0))) : Int))), cBlk b_1 [I n_Marks, v_n_Lines] 64]) H rfl hus_l7 Sz3 (by have hu_ := hus_l7; omega) (by omega) (by omega) (max (-1000000000000) (min ((l7.getD a2 ([])).getD b2 0) (((l7.getD a2 ([])).getD k 0) + ((l7.getD k ([])).getD b2 0))) : Int) rfl rfl rfl rfl rfl ?_
          intro w135z H
          have hus136z : (us_l7).length = (l7.set a2 ((l7.getD a2 ([])).set b2 (max (-1000000000000) (min ((l7.getD a2 ([])).getD b2 0) (((l7.getD a2 ([])).getD k 0) + ((l7.getD k ([])).getD b2 0))) : Int))).length := hus_l7.trans (List.length_set).symm
          refine s_nil ⟨trivial, ?_⟩
          refine W.region rfl ?_
          refine s_val (x_mv (v := I (b2 : Int)) rfl) ?_
          obtain ⟨sd137z, hM⟩ := M.e_grd hM
          simp only [Bool.and_eq_true, decide_eq_true_eq] at sd137z
          refine s_val (x_ari (a := (b2 : Int)) (b := 1) (r := (b2 : Int) + 1) rfl rfl rfl (by omega)) ?_
          refine s_val (x_as (v := I ((b2 : Int) + 1)) rfl) ?_
          refine s_nil ?_
          exact ⟨m120z, lt121z, l7.set a2 ((l7.getD a2 ([])).set b2 (max (-1000000000000) (min ((l7.getD a2 ([])).getD b2 0) (((l7.getD a2 ([])).getD k 0) + ((l7.getD k ([])).getD b2 0))) : Int)), b2 + 1, v_l7, us_l7, _, upds_of _ _ ⟨rfl, rfl, rfl, rfl, rfl, trivial⟩, M.e_inl hM hN123z, H, hus136z⟩
         ·replace hM := M.e_f hM c129z
          refine W.skip ?_
          refine W.region rfl ?_
          refine s_val (x_mv (v := I (b2 : Int)) rfl) ?_
          obtain ⟨sd138z, hM⟩ := M.e_grd hM
          simp only [Bool.and_eq_true, decide_eq_true_eq] at sd138z
          refine s_val (x_ari (a := (b2 : Int)) (b := 1) (r := (b2 : Int) + 1) rfl rfl rfl (by omega)) ?_
          refine s_val (x_as (v := I ((b2 : Int) + 1)) rfl) ?_
          refine s_nil ?_
          exact ⟨m120z, lt121z, l7, b2 + 1, v_l7, us_l7, _, upds_of _ _ ⟨rfl, rfl, rfl, rfl, rfl, trivial⟩, M.e_inl hM hN123z, H, hus_l7⟩
        ·replace hM := M.e_f hM c124z
         simp only [decide_eq_true_eq, decide_eq_false_iff_not, beq_iff_eq, bne_iff_ne, beq_eq_false_iff_ne, bne_eq_false_iff_eq, ne_eq, Decidable.not_not] at c124z
         refine W.exit ?_
         have hX139z := M.e_inr hM hN123z
         subst hX139z
         replace hM := hk116z
         try dsimp only at hM
         refine W.region rfl ?_
         refine s_val (x_mv (v := I (a2 : Int)) rfl) ?_
         obtain ⟨sd140z, hM⟩ := M.e_grd hM
         simp only [Bool.and_eq_true, decide_eq_true_eq] at sd140z
         refine s_val (x_ari (a := (a2 : Int)) (b := 1) (r := (a2 : Int) + 1) rfl rfl rfl (by omega)) ?_
         refine s_val (x_as (v := I ((a2 : Int) + 1)) rfl) ?_
         refine s_nil ?_
         exact ⟨m109z, lt110z, l7, a2 + 1, v_l7, us_l7, _, upds_of _ _ ⟨rfl, rfl, rfl, rfl, trivial⟩, M.e_inl hM hN112z, H, hus_l7⟩
      ·replace hM := M.e_f hM c113z
       simp only [decide_eq_true_eq, decide_eq_false_iff_not, beq_iff_eq, bne_iff_ne, beq_eq_false_iff_ne, bne_eq_false_iff_eq, ne_eq, Decidable.not_not] at c113z
       refine W.exit ?_
       have hX141z := M.e_inr hM hN112z
       subst hX141z
       replace hM := hk105z
       try dsimp only at hM
       refine W.region rfl ?_
       refine s_val (x_mv (v := I (k : Int)) rfl) ?_
       obtain ⟨sd142z, hM⟩ := M.e_grd hM
       simp only [Bool.and_eq_true, decide_eq_true_eq] at sd142z
       refine s_val (x_ari (a := (k : Int)) (b := 1) (r := (k : Int) + 1) rfl rfl rfl (by omega)) ?_
       refine s_val (x_as (v := I ((k : Int) + 1)) rfl) ?_
       refine s_nil ?_
       exact ⟨m98z, lt99z, l10, k + 1, v_l10, us_l10, _, upds_of _ _ ⟨rfl, rfl, rfl, trivial⟩, M.e_inl hM hN101z, H, hus_l10⟩
    ·replace hM := M.e_f hM c102z
     simp only [decide_eq_true_eq, decide_eq_false_iff_not, beq_iff_eq, bne_iff_ne, beq_eq_false_iff_ne, bne_eq_false_iff_eq, ne_eq, Decidable.not_not] at c102z
     refine W.exit ?_
     have hX143z := M.e_inr hM hN101z
     subst hX143z
     replace hM := hk94z
     try dsimp only at hM
     refine W.seq ?_
     refine W.region rfl ?_
     refine s_val (x_mv (v := v_l13) rfl) ?_
     refine s_val (x_as (v := v_l13) rfl) ?_
     refine s_nil ?_
     refine W.ret ?_
     obtain ⟨Bs_9, H, hs144z⟩ := H.matE (k := 0) rfl hus_l13
     replace H : St w w95z [cRo Bs_9, cBlk b_1 [I n_Marks, v_n_Lines] 64] R := H
     have hr_ := M.e_pure hM
     exact ⟨_, resE_tmp rfl, ⟨l13, v_l13, Bs_9, hr_, rfl, (H.pick [0] (by decide) rfl), hs144z⟩⟩

def m_nilometerref01_agrees_b0 (n_Marks : Int) (r2 : List (List Int)) : Nat -> M (Nat ⊕ (Unit ⊕ Unit)) := fun a =>
  bif decide ((a : Int) < n_Marks) then (
  M.grd (decide ((a : Int) < (r2.length : Int))) <|
  M.grd (decide ((a : Int) < ((r2.getD a ([])).length : Int))) <|
  bif decide (((r2.getD a ([])).getD a 0) < 0) then (
  M.pure (.inr (.inl ())))
  else (
  M.pure (.inl (a + 1))))
  else (
  M.pure (.inr (.inr ())))
def m_nilometerref01_agrees (n_Marks : Int) (n_Lines : List Line) : M Bool :=
  M.bind (m_nilometerref01_table n_Marks n_Lines) fun r2 =>
  M.bind (M.iter (m_nilometerref01_agrees_b0 n_Marks r2) 0) fun x_ => match x_ with
  | (.inl (_ : Unit)) => (
  M.pure false)
  | (.inr (_ : Unit)) => (
  M.pure true)
theorem nilometerref01_agrees_ok {R : List Chunk} {C_n_Lines : Cells} {v_n_Lines : Value} (n_Marks : Int) (n_Lines : List Line) (hC_n_Lines : Reads R C_n_Lines) (hs_n_Lines : Sl C_n_Lines v_n_Lines n_Lines) {r : Bool} (hM : (m_nilometerref01_agrees n_Marks n_Lines).Ends r) (w : World) (H : St w w [] R) : Ret Try.prog 72 #[.agg #[I n_Marks, v_n_Lines]] w fun v w' => ∃ (y0 : Bool), y0 = r /\ v = B y0 /\ St w w' [] R := by
 refine ret_of_W Try.func72 rfl rfl rfl ?_
 refine W.seq ?_
 refine W.region rfl ?_
 refine t_box (v := .agg #[I n_Marks, v_n_Lines]) (cs := [I n_Marks, v_n_Lines]) H rfl rfl ?_
 intro b_1 w1z H
 refine s_val (x_as (v := B false) rfl) ?_
 refine s_nil ?_
 refine W.seq ?_
 refine W.region rfl ?_
 refine s_val (x_ld (p := .pointer (some ⟨b_1, 0, none⟩)) (v := .agg #[I n_Marks, v_n_Lines]) rfl (ldb_ag (ds := [I n_Marks, v_n_Lines]) Ag64 Sz64 (H.blk (k := 0) rfl) rfl rfl)) ?_
 obtain ⟨r3z, hx2z, hM⟩ := M.e_bind hM
 refine s_call cf80 [.agg #[I n_Marks, v_n_Lines]] rfl (nilometerref01_table_ok n_Marks n_Lines (hC_n_Lines.app _) hs_n_Lines hx2z _ (St.give (T := [cBlk b_1 [I n_Marks, v_n_Lines] 64]) H rfl)) ?_
 rintro vq w4z ⟨r2, u0_2, Bs1_3, hr5z, hvq, H2_, hf6z⟩
 subst hr5z
 subst vq
 try dsimp only at hM
 replace H : St w w4z [cRo Bs1_3, cBlk b_1 [I n_Marks, v_n_Lines] 64] R := H.back H2_ rfl
 clear H2_
 refine s_val (x_as (v := u0_2) rfl) ?_
 refine s_nil ?_
 refine W.seq ?_
 refine W.seq ?_
 refine W.region rfl ?_
 refine s_val (x_as (v := I 0) rfl) ?_
 refine s_nil ?_
 refine W.block ?_
 obtain ⟨ex7z, hi8z, hk9z⟩ := M.e_bind hM
 obtain ⟨m0_, hi8z⟩ := M.e_iter hi8z
 refine W.loop (fun m σ W => ∃ (a : Nat) (ρ : Env), σ = upds ρ [(1, .pointer (some ⟨b_1, 0, none⟩)), (3, u0_2), (4, I (a : Int))] /\ M.iterN (m_nilometerref01_agrees_b0 n_Marks r2) m a = some ex7z /\ St w W [cRo Bs1_3, cBlk b_1 [I n_Marks, v_n_Lines] 64] R) ?_ ?_
 ·exact ⟨_, 0, _, upds_of _ _ ⟨rfl, rfl, rfl, trivial⟩, hi8z, H⟩
 ·rintro m12z σ w10z ⟨a, ρ, rfl, hI11z, H⟩
  obtain ⟨m13z, lt14z, x15z, hM, hN16z⟩ := M.e_iterN hI11z
  simp only [m_nilometerref01_agrees_b0] at hM
  clear hI11z
  refine W.seq ?_
  refine W.seq ?_
  refine W.region rfl ?_
  refine s_val (x_mv (v := I (a : Int)) rfl) ?_
  refine s_val (x_fa (a := .pointer (some ⟨b_1, 0, none⟩)) (v := .pointer (some ⟨b_1, 0, none⟩)) rfl (fa_blk (o := 0) Fd64_0 Sz3)) ?_
  refine s_val (x_ld (p := .pointer (some ⟨b_1, 0, none⟩)) (v := I n_Marks) rfl (ldb_sc Sc3 (H.blk (k := 1) rfl) rfl)) ?_
  refine s_val (x_cmp (kd := .i64) (a := (a : Int)) (b := n_Marks) (r := decide ((a : Int) < n_Marks)) rfl rfl rfl) ?_
  refine s_nil ?_
  refine W.cond (decide ((a : Int) < n_Marks)) rfl (fun c17z => ?_) (fun c17z => ?_)
  ·replace hM := M.e_t hM c17z
   simp only [decide_eq_true_eq, decide_eq_false_iff_not, beq_iff_eq, bne_iff_ne, beq_eq_false_iff_ne, bne_eq_false_iff_eq, ne_eq, Decidable.not_not] at c17z
   refine W.skip ?_
   refine W.seq ?_
   refine W.block ?_
   refine W.seq ?_
   refine W.region rfl ?_
   refine s_val (x_mv (v := u0_2) rfl) ?_
   refine s_val (x_mv (v := I (a : Int)) rfl) ?_
   obtain ⟨sd18z, hM⟩ := M.e_grd hM
   simp only [Bool.and_eq_true, decide_eq_true_eq] at sd18z
   refine s_val (x_ix (a := u0_2) (b := I (a : Int)) (v := vat u0_2 1 (Int.toNat (a : Int))) rfl rfl (Sl.ix (α := List Int) T142.und T142.size hf6z (by omega) (by omega))) ?_
   obtain ⟨u19z, ha_u19z, hs20z⟩ := List_at hf6z (i := (a : Int)) (by omega) (by omega)
   replace hs20z : Sl _ u19z (r2.getD a ([])) := hs20z
   have hl_hs20z := hs20z.len_le
   refine s_val (x_ld (p := vat u0_2 1 (Int.toNat (a : Int))) (v := u19z) rfl (ld_sc Sc26 (At.mono (ha_u19z) (roLe _ (H.get (k := 0) rfl))))) ?_
   refine s_val (x_mv (v := I (a : Int)) rfl) ?_
   obtain ⟨sd21z, hM⟩ := M.e_grd hM
   simp only [Bool.and_eq_true, decide_eq_true_eq] at sd21z
   refine s_val (x_ix (a := u19z) (b := I (a : Int)) (v := vat u19z 1 (Int.toNat (a : Int))) rfl rfl (Sl.ix (α := Int) T26.und T26.size hs20z (by omega) (by omega))) ?_
   refine s_val (x_ld (p := vat u19z 1 (Int.toNat (a : Int))) (v := I ((r2.getD a ([])).getD a 0)) rfl (ld_sc Sc3 (At.mono (Int_at hs20z (i := (a : Int)) (by omega) (by omega)) (roLe _ (H.get (k := 0) rfl))))) ?_
   refine s_val (x_cmp (kd := .i64) (a := (r2.getD a ([])).getD a 0) (b := 0) (r := decide (((r2.getD a ([])).getD a 0) < 0)) rfl rfl rfl) ?_
   refine s_nil ?_
   refine W.cond (decide (((r2.getD a ([])).getD a 0) < 0)) rfl (fun c22z => ?_) (fun c22z => ?_)
   ·replace hM := M.e_t hM c22z
    simp only [decide_eq_true_eq, decide_eq_false_iff_not, beq_iff_eq, bne_iff_ne, beq_eq_false_iff_ne, bne_eq_false_iff_eq, ne_eq, Decidable.not_not] at c22z
    refine W.seq ?_
    refine W.region rfl ?_
    refine s_val (x_as (v := B false) rfl) ?_
    refine s_nil ?_
    refine W.ret ?_
    have hX23z := M.e_inr hM hN16z
    subst hX23z
    replace hM := hk9z
    try dsimp only at hM
    have hr_ := M.e_pure hM
    exact ⟨_, resE_tmp rfl, ⟨false, hr_, rfl, (H.pick [] (by decide) rfl)⟩⟩
   ·replace hM := M.e_f hM c22z
    simp only [decide_eq_true_eq, decide_eq_false_iff_not, beq_iff_eq, bne_iff_ne, beq_eq_false_iff_ne, bne_eq_false_iff_eq, ne_eq, Decidable.not_not] at c22z
    refine W.skip ?_
    refine W.region rfl ?_
    refine s_val (x_mv (v := I (a : Int)) rfl) ?_
    refine s_val (x_ari (a := (a : Int)) (b := 1) (r := (a : Int) + 1) rfl rfl rfl (by omega)) ?_
    refine s_val (x_as (v := I ((a : Int) + 1)) rfl) ?_
    refine s_nil ?_
    exact ⟨m13z, lt14z, a + 1, _, upds_of _ _ ⟨rfl, rfl, rfl, trivial⟩, M.e_inl hM hN16z, H⟩
  ·replace hM := M.e_f hM c17z
   simp only [decide_eq_true_eq, decide_eq_false_iff_not, beq_iff_eq, bne_iff_ne, beq_eq_false_iff_ne, bne_eq_false_iff_eq, ne_eq, Decidable.not_not] at c17z
   refine W.exit ?_
   have hX24z := M.e_inr hM hN16z
   subst hX24z
   replace hM := hk9z
   try dsimp only at hM
   refine W.seq ?_
   refine W.region rfl ?_
   refine s_val (x_as (v := B true) rfl) ?_
   refine s_nil ?_
   refine W.ret ?_
   have hr_ := M.e_pure hM
   exact ⟨_, resE_tmp rfl, ⟨true, hr_, rfl, (H.pick [] (by decide) rfl)⟩⟩

def m_nilometerref01_Agrees (n_Marks : Int) (n_Lines : List Line) : M (Bool × Int) :=
  M.bind (m_nilometerref01_Check n_Marks n_Lines) fun r2 =>
  bif r2 != 0 then (
  M.pure (false, r2))
  else (
  M.bind (m_nilometerref01_agrees n_Marks n_Lines) fun r3 =>
  M.pure (r3, 0))
theorem nilometerref01_Agrees_ok {R : List Chunk} {C_n_Lines : Cells} {v_n_Lines : Value} (n_Marks : Int) (n_Lines : List Line) (hC_n_Lines : Reads R C_n_Lines) (hs_n_Lines : Sl C_n_Lines v_n_Lines n_Lines) {r : (Bool × Int)} (hM : (m_nilometerref01_Agrees n_Marks n_Lines).Ends r) (w : World) (H : St w w [] R) : Ret Try.prog 39 #[.agg #[I n_Marks, v_n_Lines]] w fun v w' => ∃ (y0 : Bool) (y1 : Int), (y0, y1) = r /\ v = .tuple #[B y0, I y1] /\ St w w' [] R := by
 refine ret_of_W Try.func39 rfl rfl rfl ?_
 refine W.seq ?_
 refine W.region rfl ?_
 refine t_box (v := .agg #[I n_Marks, v_n_Lines]) (cs := [I n_Marks, v_n_Lines]) H rfl rfl ?_
 intro b_1 w1z H
 refine s_val (x_as (v := B false) rfl) ?_
 refine s_val (x_as (v := I 0) rfl) ?_
 refine s_nil ?_
 refine W.seq ?_
 refine W.seq ?_
 refine W.region rfl ?_
 refine s_val (x_ld (p := .pointer (some ⟨b_1, 0, none⟩)) (v := .agg #[I n_Marks, v_n_Lines]) rfl (ldb_ag (ds := [I n_Marks, v_n_Lines]) Ag64 Sz64 (H.blk (k := 0) rfl) rfl rfl)) ?_
 obtain ⟨r3z, hx2z, hM⟩ := M.e_bind hM
 refine s_call cf38 [.agg #[I n_Marks, v_n_Lines]] rfl (nilometerref01_Check_ok n_Marks n_Lines (hC_n_Lines.app _) hs_n_Lines hx2z _ (St.give (T := [cBlk b_1 [I n_Marks, v_n_Lines] 64]) H rfl)) ?_
 rintro vq w4z ⟨r2, hr5z, hvq, H2_⟩
 subst hr5z
 subst vq
 try dsimp only at hM
 replace H : St w w4z [cBlk b_1 [I n_Marks, v_n_Lines] 64] R := H.back H2_ rfl
 clear H2_
 refine s_val (x_as (v := I r2) rfl) ?_
 refine s_nil ?_
 refine W.seq ?_
 refine W.region rfl ?_
 refine s_val (x_mv (v := I r2) rfl) ?_
 refine s_val (x_cmp (kd := .i64) (a := r2) (b := 0) (r := r2 != 0) rfl rfl rfl) ?_
 refine s_nil ?_
 refine W.cond (r2 != 0) rfl (fun c6z => ?_) (fun c6z => ?_)
 ·replace hM := M.e_t hM c6z
  simp only [decide_eq_true_eq, decide_eq_false_iff_not, beq_iff_eq, bne_iff_ne, beq_eq_false_iff_ne, bne_eq_false_iff_eq, ne_eq, Decidable.not_not] at c6z
  refine W.seq ?_
  refine W.region rfl ?_
  refine s_val (x_mv (v := I r2) rfl) ?_
  refine s_val (x_as (v := B false) rfl) ?_
  refine s_val (x_as (v := I r2) rfl) ?_
  refine s_nil ?_
  refine W.ret ?_
  have hr_ := M.e_pure hM
  exact ⟨_, resE_tmp2 rfl, ⟨false, r2, hr_, rfl, (H.pick [] (by decide) rfl)⟩⟩
 ·replace hM := M.e_f hM c6z
  simp only [decide_eq_true_eq, decide_eq_false_iff_not, beq_iff_eq, bne_iff_ne, beq_eq_false_iff_ne, bne_eq_false_iff_eq, ne_eq, Decidable.not_not] at c6z
  refine W.skip ?_
  refine W.seq ?_
  refine W.region rfl ?_
  refine s_val (x_ld (p := .pointer (some ⟨b_1, 0, none⟩)) (v := .agg #[I n_Marks, v_n_Lines]) rfl (ldb_ag (ds := [I n_Marks, v_n_Lines]) Ag64 Sz64 (H.blk (k := 0) rfl) rfl rfl)) ?_
  obtain ⟨r8z, hx7z, hM⟩ := M.e_bind hM
  refine s_call cf72 [.agg #[I n_Marks, v_n_Lines]] rfl (nilometerref01_agrees_ok n_Marks n_Lines (hC_n_Lines.app _) hs_n_Lines hx7z _ (St.give (T := [cBlk b_1 [I n_Marks, v_n_Lines] 64]) H rfl)) ?_
  rintro vq w9z ⟨r3, hr10z, hvq, H2_⟩
  subst hr10z
  subst vq
  try dsimp only at hM
  replace H : St w w9z [cBlk b_1 [I n_Marks, v_n_Lines] 64] R := H.back H2_ rfl
  clear H2_
  refine s_val (x_as (v := B r3) rfl) ?_
  refine s_val (x_as (v := I 0) rfl) ?_
  refine s_nil ?_
  refine W.ret ?_
  have hr_ := M.e_pure hM
  exact ⟨_, resE_tmp2 rfl, ⟨r3, 0, hr_, rfl, (H.pick [] (by decide) rfl)⟩⟩

end Go.Proofs.Ytclhljenjphofaa
end
namespace Go.Nm
open Go
structure Row13 where
  v : List Int
deriving Inhabited
theorem encI : ∀ l : List Int, encF (α := Int) l = l.map I
  | [] => rfl
  | x :: l => by
    have := encI l
    unfold encF at *
    rw [List.map_cons, List.flatten_cons, this]
    rfl
instance : Elt Row13 where
  rep _ cs x := cs = encF (α := Int) x.v /\ x.v.length = 13
  sz := 13
  agg := true
  sz_pos := by decide
  len := fun h => by rw [h.1, encI, List.length_map, h.2]
  mono := fun _ h => h
  one := fun h v hv => by
    rw [h.1] at hv
    exact List.all_eq_true.1 (encF_one _) v hv
end Go.Nm
namespace Go.Proofs.Ytclhljenjphofaa
open Go Go.Nm
end Go.Proofs.Ytclhljenjphofaa
section
set_option maxRecDepth 100000
set_option maxHeartbeats 16000000
namespace Go.Proofs.Ytclhljenjphofaa
open Go Go.Nm
end Go.Proofs.Ytclhljenjphofaa
end
section
set_option maxRecDepth 100000
set_option maxHeartbeats 16000000
namespace Go.Proofs.Ytclhljenjphofaa
open Go Go.Nm
def m_nilometerlaw01_Net_b0 (n_Lines : List Line) : (Nat × (List Line)) -> M ((Nat × (List Line)) ⊕ ((List Line) × (List Line))) := fun (s, l) =>
  bif decide ((s : Int) < (n_Lines.length : Int)) then (
  M.grd (decide ((s : Int) < (n_Lines.length : Int))) <|
  M.grd (decide ((l.length + ([(n_Lines.getD s default)]).length) * 40 <= 140737488355328)) <|
  M.pure (.inl (s + 1, l ++ ([(n_Lines.getD s default)]))))
  else (
  M.pure (.inr (l, l)))
def m_nilometerlaw01_Net (n_Marks : Int) (n_Lines : List Line) : M (Int × (List Line)) :=
  M.bind (M.iter (m_nilometerlaw01_Net_b0 n_Lines) (0, [])) fun (l2, l3) =>
  M.pure (n_Marks, l3)
theorem nilometerlaw01_Net_ok {R : List Chunk} {C_n_Lines : Cells} {v_n_Lines : Value} (n_Marks : Int) (n_Lines : List Line) (hC_n_Lines : Reads R C_n_Lines) (hs_n_Lines : Sl C_n_Lines v_n_Lines n_Lines) {r : (Int × (List Line))} (hM : (m_nilometerlaw01_Net n_Marks n_Lines).Ends r) (w : World) (H : St w w [] R) : Ret Try.prog 28 #[.agg #[I n_Marks, v_n_Lines]] w fun v w' => ∃ (y0 : Int) (y1 : List Line) (u0 : Value), (y0, y1) = r /\ v = .agg #[I y0, u0] /\ St w w' [cOwn (α := Line) 133 u0 y1] R := by
 refine ret_of_W Try.func28 rfl rfl rfl ?_
 refine W.seq ?_
 refine W.region rfl ?_
 refine t_box (v := .agg #[I n_Marks, v_n_Lines]) (cs := [I n_Marks, v_n_Lines]) H rfl rfl ?_
 intro b_1 w1z H
 refine t_alloc (cs := [I 0, .slice none 0 0]) H Al64 rfl ?_
 intro b_2 w2z H
 refine s_nil ?_
 refine W.seq ?_
 refine W.region rfl ?_
 refine s_val (x_fa (a := .pointer (some ⟨b_1, 0, none⟩)) (v := .pointer (some ⟨b_1, 0, none⟩)) rfl (fa_blk (o := 0) Fd25_0 Sz3)) ?_
 refine s_val (x_ld (p := .pointer (some ⟨b_1, 0, none⟩)) (v := I n_Marks) rfl (ldb_sc Sc3 (H.blk (k := 1) rfl) rfl)) ?_
 refine s_val (x_bld (ps := [(0, I n_Marks)]) (zs := [I 0, .slice none 0 0]) (L' := [I n_Marks, .slice none 0 0]) rfl Try.underlying64 Al64 rfl (Bd64 Try.underlying64) (.cons (cs := [I n_Marks]) rfl rfl rfl rfl rfl <| .nil)) ?_
 refine t_alloc (cs := [I 0, .slice none 0 0]) H Al64 rfl ?_
 intro b_3 w3z H
 refine t_st (k := 0) (b := b_3) (off := 0) (cs := [I 0, .slice none 0 0]) (vs := [I n_Marks, .slice none 0 0]) (cs' := [I n_Marks, .slice none 0 0]) (v := .agg #[I n_Marks, .slice none 0 0]) (L' := [cBlk b_3 [I n_Marks, .slice none 0 0] 64, cBlk b_2 [I 0, .slice none 0 0] 64, cBlk b_1 [I n_Marks, v_n_Lines] 25]) H rfl rfl rfl Sz64 rfl rfl rfl rfl rfl rfl ?_
 intro w4z H
 refine s_nil ?_
 refine W.seq ?_
 refine W.seq ?_
 refine W.region rfl ?_
 refine s_val (x_fa (a := .pointer (some ⟨b_1, 0, none⟩)) (v := .pointer (some ⟨b_1, 1, none⟩)) rfl (fa_blk (o := 0) Fd25_1 Sz23)) ?_
 refine s_val (x_ld (p := .pointer (some ⟨b_1, 1, none⟩)) (v := v_n_Lines) rfl (ldb_sc Sc23 (H.blk (k := 2) rfl) rfl)) ?_
 have hl5z := (hs_n_Lines).len_le
 refine s_val (x_lenS T23.und rfl hs_n_Lines) ?_
 refine s_val (x_mv (v := I 0) rfl) ?_
 refine s_nil ?_
 refine W.block ?_
 replace H : St w w4z [cOwn (α := Line) 133 (.slice none 0 0) ([]), cBlk b_3 [I n_Marks, .slice none 0 0] 64, cBlk b_2 [I 0, .slice none 0 0] 64, cBlk b_1 [I n_Marks, v_n_Lines] 25] R := H.nilOwn (α := Line) 133
 obtain ⟨ex6z, hi7z, hk8z⟩ := M.e_bind hM
 obtain ⟨m0_, hi7z⟩ := M.e_iter hi7z
 refine W.loop (fun m σ W => ∃ (s : Nat) (l : List Line) (v_l : Value) (ρ : Env), σ = upds ρ [(2, .pointer (some ⟨b_2, 0, none⟩)), (3, .pointer (some ⟨b_3, 0, none⟩)), (10, v_n_Lines), (11, I (n_Lines.length : Int)), (12, I (s : Int))] /\ M.iterN (m_nilometerlaw01_Net_b0 n_Lines) m (s, l) = some ex6z /\ St w W [cOwn (α := Line) 133 v_l l, cBlk b_3 [I n_Marks, v_l] 64, cBlk b_2 [I 0, .slice none 0 0] 64, cBlk b_1 [I n_Marks, v_n_Lines] 25] R) ?_ ?_
 ·exact ⟨_, 0, [], (.slice none 0 0), _, upds_of _ _ ⟨rfl, rfl, rfl, rfl, rfl, trivial⟩, hi7z, H⟩
 ·rintro m11z σ w9z ⟨s, l, v_l, ρ, rfl, hI10z, H⟩
  obtain ⟨m12z, lt13z, x14z, hM, hN15z⟩ := M.e_iterN hI10z
  simp only [m_nilometerlaw01_Net_b0] at hM
  clear hI10z
  refine W.seq ?_
  refine W.region rfl ?_
  refine s_val (x_cmp (kd := .i64) (a := (s : Int)) (b := (n_Lines.length : Int)) (r := decide ((s : Int) < (n_Lines.length : Int))) rfl rfl rfl) ?_
  refine s_nil ?_
  refine W.seq ?_
  refine W.cond (decide ((s : Int) < (n_Lines.length : Int))) rfl (fun c16z => ?_) (fun c16z => ?_)
  ·replace hM := M.e_t hM c16z
   simp only [decide_eq_true_eq, decide_eq_false_iff_not, beq_iff_eq, bne_iff_ne, beq_eq_false_iff_ne, bne_eq_false_iff_eq, ne_eq, Decidable.not_not] at c16z
   refine W.skip ?_
   refine W.seq ?_
   refine W.block ?_
   refine W.seq ?_
   refine W.region rfl ?_
   obtain ⟨sd17z, hM⟩ := M.e_grd hM
   simp only [Bool.and_eq_true, decide_eq_true_eq] at sd17z
   refine s_val (x_ix (a := v_n_Lines) (b := I (s : Int)) (v := vat v_n_Lines 5 (Int.toNat (s : Int))) rfl rfl (Sl.ix (α := Line) T23.und T23.size hs_n_Lines (by omega) (by omega))) ?_
   refine s_val (x_ld (p := vat v_n_Lines 5 (Int.toNat (s : Int))) (v := .agg #[I ((n_Lines.getD s default).src), I ((n_Lines.getD s default).dst), I ((n_Lines.getD s default).day), I ((n_Lines.getD s default).rise), I ((n_Lines.getD s default).err)]) rfl (ld_ag Ag34 Sz34 (At.mono (Line_atA hs_n_Lines (i := (s : Int)) (by omega) (by omega)) (hC_n_Lines.at H)))) ?_
   refine t_alloc (cs := [I 0, I 0, I 0, I 0, I 0]) H Al34 rfl ?_
   intro b_4 w18z H
   refine t_st (k := 0) (b := b_4) (off := 0) (cs := [I 0, I 0, I 0, I 0, I 0]) (vs := [I ((n_Lines.getD s default).src), I ((n_Lines.getD s default).dst), I ((n_Lines.getD s default).day), I ((n_Lines.getD s default).rise), I ((n_Lines.getD s default).err)]) (cs' := [I ((n_Lines.getD s default).src), I ((n_Lines.getD s default).dst), I ((n_Lines.getD s default).day), I ((n_Lines.getD s default).rise), I ((n_Lines.getD s default).err)]) (v := .agg #[I ((n_Lines.getD s default).src), I ((n_Lines.getD s default).dst), I ((n_Lines.getD s default).day), I ((n_Lines.getD s default).rise), I ((n_Lines.getD s default).err)]) (L' := [cBlk b_4 [I ((n_Lines.getD s default).src), I ((n_Lines.getD s default).dst), I ((n_Lines.getD s default).day), I ((n_Lines.getD s default).rise), I ((n_Lines.getD s default).err)] 34, cOwn (α := Line) 133 v_l l, cBlk b_3 [I n_Marks, v_l] 64, cBlk b_2 [I 0, .slice none 0 0] 64, cBlk b_1 [I n_Marks, v_n_Lines] 25]) H rfl rfl rfl Sz34 rfl rfl rfl rfl rfl rfl ?_
   intro w19z H
   refine s_nil ?_
   refine W.region rfl ?_
   refine s_val (x_fa (a := .pointer (some ⟨b_3, 0, none⟩)) (v := .pointer (some ⟨b_3, 1, none⟩)) rfl (fa_blk (o := 0) Fd64_1 Sz62)) ?_
   refine s_val (x_ld (p := .pointer (some ⟨b_3, 1, none⟩)) (v := v_l) rfl (ldb_sc Sc62 (H.blk (k := 2) rfl) rfl)) ?_
   refine s_val (x_ld (p := .pointer (some ⟨b_4, 0, none⟩)) (v := .agg #[I ((n_Lines.getD s default).src), I ((n_Lines.getD s default).dst), I ((n_Lines.getD s default).day), I ((n_Lines.getD s default).rise), I ((n_Lines.getD s default).err)]) rfl (ldb_ag (ds := [I ((n_Lines.getD s default).src), I ((n_Lines.getD s default).dst), I ((n_Lines.getD s default).day), I ((n_Lines.getD s default).rise), I ((n_Lines.getD s default).err)]) Ag34 Sz34 (H.blk (k := 0) rfl) rfl rfl)) ?_
   refine t_bs (α := Line) T62 [.agg #[I ((n_Lines.getD s default).src), I ((n_Lines.getD s default).dst), I ((n_Lines.getD s default).day), I ((n_Lines.getD s default).rise), I ((n_Lines.getD s default).err)]] [(n_Lines.getD s default)] H rfl (.cons rfl (Flat.rep_enc _ (n_Lines.getD s default)) <| .nil) rfl rfl rfl ?_
   intro v20z w21z H
   obtain ⟨sd22z, hM⟩ := M.e_grd hM
   simp only [Bool.and_eq_true, decide_eq_true_eq] at sd22z
   refine t_app (α := Line) (k := 2) (l := l) (l2 := [(n_Lines.getD s default)]) (l' := l ++ ([(n_Lines.getD s default)])) (vy := v20z) T62 rfl H rfl rfl rfl (ownSl (H.get (k := 0) rfl)) (ownLe _ (H.get (k := 0) rfl)) (rfl) (by first | omega | (simp only [List.length_nil] at *; omega)) ?_
   intro v23z w24z H
   replace H : St w w24z [cOwn (α := Line) 133 v20z ([(n_Lines.getD s default)]), cBlk b_4 [I ((n_Lines.getD s default).src), I ((n_Lines.getD s default).dst), I ((n_Lines.getD s default).day), I ((n_Lines.getD s default).rise), I ((n_Lines.getD s default).err)] 34, cOwn (α := Line) 133 v23z (l ++ ([(n_Lines.getD s default)])), cBlk b_3 [I n_Marks, v_l] 64, cBlk b_2 [I 0, .slice none 0 0] 64, cBlk b_1 [I n_Marks, v_n_Lines] 25] R := H
   refine s_val (x_fa (a := .pointer (some ⟨b_3, 0, none⟩)) (v := .pointer (some ⟨b_3, 1, none⟩)) rfl (fa_blk (o := 0) Fd64_1 Sz62)) ?_
   refine t_st (k := 3) (b := b_3) (off := 1) (cs := [I n_Marks, v_l]) (vs := [v23z]) (cs' := [I n_Marks, v23z]) (v := v23z) (L' := [cOwn (α := Line) 133 v20z ([(n_Lines.getD s default)]), cBlk b_4 [I ((n_Lines.getD s default).src), I ((n_Lines.getD s default).dst), I ((n_Lines.getD s default).day), I ((n_Lines.getD s default).rise), I ((n_Lines.getD s default).err)] 34, cOwn (α := Line) 133 v23z (l ++ ([(n_Lines.getD s default)])), cBlk b_3 [I n_Marks, v23z] 64, cBlk b_2 [I 0, .slice none 0 0] 64, cBlk b_1 [I n_Marks, v_n_Lines] 25]) H rfl rfl rfl Sz62 (Sl.cells (ownSl (H.get (k := 2) rfl))) rfl rfl (by simp only [List.all_cons, List.all_nil, Bool.true_and, Bool.and_true, Sl.oc (ownSl (H.get (k := 2) rfl))]; try rfl) rfl rfl ?_
   intro w25z H
   refine s_nil ?_
   refine W.region rfl ?_
   refine s_val (x_ari (a := (s : Int)) (b := 1) (r := (s : Int) + 1) rfl rfl rfl (by omega)) ?_
   refine s_val (x_mv (v := I ((s : Int) + 1)) rfl) ?_
   refine s_nil ?_
   exact ⟨m12z, lt13z, s + 1, l ++ ([(n_Lines.getD s default)]), v23z, _, upds_of _ _ ⟨rfl, rfl, rfl, rfl, rfl, trivial⟩, M.e_inl hM hN15z, (H.pick [2, 3, 4, 5] (by decide) rfl)⟩
  ·replace hM := M.e_f hM c16z
   simp only [decide_eq_true_eq, decide_eq_false_iff_not, beq_iff_eq, bne_iff_ne, beq_eq_false_iff_ne, bne_eq_false_iff_eq, ne_eq, Decidable.not_not] at c16z
   refine W.exit ?_
   have hX26z := M.e_inr hM hN15z
   subst hX26z
   replace hM := hk8z
   try dsimp only at hM
   refine W.seq ?_
   refine W.region rfl ?_
   refine s_val (x_ld (p := .pointer (some ⟨b_3, 0, none⟩)) (v := .agg #[I n_Marks, v_l]) rfl (ldb_ag (ds := [I n_Marks, v_l]) Ag64 Sz64 (H.blk (k := 1) rfl) rfl rfl)) ?_
   refine t_st (k := 2) (b := b_2) (off := 0) (cs := [I 0, .slice none 0 0]) (vs := [I n_Marks, v_l]) (cs' := [I n_Marks, v_l]) (v := .agg #[I n_Marks, v_l]) (L' := [cOwn (α := Line) 133 v_l l, cBlk b_3 [I n_Marks, v_l] 64, cBlk b_2 [I n_Marks, v_l] 64, cBlk b_1 [I n_Marks, v_n_Lines] 25]) H rfl rfl rfl Sz64 rfl rfl rfl (by simp only [List.all_cons, List.all_nil, Bool.true_and, Bool.and_true, Sl.oc (ownSl (H.get (k := 0) rfl))]; try rfl) rfl rfl ?_
   intro w27z H
   refine s_nil ?_
   refine W.ret ?_
   have hb28z := (H.blk (k := 2) rfl)
   have hr_ := M.e_pure hM
   exact ⟨_, (resE_of1 (v := .agg #[I n_Marks, v_l]) rfl (.cell (v := .agg #[I n_Marks, v_l]) rfl (run_loadVar_ag (ds := [I n_Marks, v_l]) Ag64 Sz64 hb28z rfl rfl) <| .nil)), ⟨n_Marks, l, v_l, hr_, rfl, (H.pick [0] (by decide) rfl)⟩⟩

def m_nilometerkit_Same_level_Line_b0 (a : List Line) (b : List Line) : Nat -> M (Nat ⊕ (Unit ⊕ Unit)) := fun i =>
  bif decide ((i : Int) < (a.length : Int)) then (
  M.grd (decide ((i : Int) < (a.length : Int))) <|
  M.grd (decide ((i : Int) < (b.length : Int))) <|
  bif !(decide ((a.getD i default) = (b.getD i default))) then (
  M.pure (.inr (.inl ())))
  else (
  M.pure (.inl (i + 1))))
  else (
  M.pure (.inr (.inr ())))
def m_nilometerkit_Same_level_Line (a : List Line) (b : List Line) : M Bool :=
  bif (a.length : Int) != (b.length : Int) then (
  M.pure false)
  else (
  M.bind (M.iter (m_nilometerkit_Same_level_Line_b0 a b) 0) fun x_ => match x_ with
  | (.inl (_ : Unit)) => (
  M.pure false)
  | (.inr (_ : Unit)) => (
  M.pure true))
theorem nilometerkit_Same_level_Line_ok {R : List Chunk} {C_a : Cells} {v_a : Value} {C_b : Cells} {v_b : Value} (a : List Line) (b : List Line) (hC_a : Reads R C_a) (hs_a : Sl C_a v_a a) (hC_b : Reads R C_b) (hs_b : Sl C_b v_b b) {r : Bool} (hM : (m_nilometerkit_Same_level_Line a b).Ends r) (w : World) (H : St w w [] R) : Ret Try.prog 71 #[v_a, v_b] w fun v w' => ∃ (y0 : Bool), y0 = r /\ v = B y0 /\ St w w' [] R := by
 refine ret_of_W Try.func71 rfl rfl rfl ?_
 refine W.seq ?_
 refine W.region rfl ?_
 refine s_val (x_as (v := B false) rfl) ?_
 refine s_nil ?_
 refine W.seq ?_
 refine W.seq ?_
 refine W.region rfl ?_
 refine s_val (x_mv (v := v_a) rfl) ?_
 have hl1z := (hs_a).len_le
 refine s_val (x_lenS T23.und rfl hs_a) ?_
 refine s_val (x_mv (v := v_b) rfl) ?_
 have hl2z := (hs_b).len_le
 refine s_val (x_lenS T23.und rfl hs_b) ?_
 refine s_val (x_cmp (kd := .i64) (a := (a.length : Int)) (b := (b.length : Int)) (r := (a.length : Int) != (b.length : Int)) rfl rfl rfl) ?_
 refine s_nil ?_
 refine W.cond ((a.length : Int) != (b.length : Int)) rfl (fun c3z => ?_) (fun c3z => ?_)
 ·replace hM := M.e_t hM c3z
  simp only [decide_eq_true_eq, decide_eq_false_iff_not, beq_iff_eq, bne_iff_ne, beq_eq_false_iff_ne, bne_eq_false_iff_eq, ne_eq, Decidable.not_not] at c3z
  refine W.seq ?_
  refine W.region rfl ?_
  refine s_val (x_as (v := B false) rfl) ?_
  refine s_nil ?_
  refine W.ret ?_
  have hr_ := M.e_pure hM
  exact ⟨_, resE_tmp rfl, ⟨false, hr_, rfl, H⟩⟩
 ·replace hM := M.e_f hM c3z
  simp only [decide_eq_true_eq, decide_eq_false_iff_not, beq_iff_eq, bne_iff_ne, beq_eq_false_iff_ne, bne_eq_false_iff_eq, ne_eq, Decidable.not_not] at c3z
  refine W.skip ?_
  refine W.seq ?_
  refine W.seq ?_
  refine W.region rfl ?_
  refine s_val (x_as (v := I 0) rfl) ?_
  refine s_nil ?_
  refine W.block ?_
  obtain ⟨ex4z, hi5z, hk6z⟩ := M.e_bind hM
  obtain ⟨m0_, hi5z⟩ := M.e_iter hi5z
  refine W.loop (fun m σ W => ∃ (i : Nat) (ρ : Env), σ = upds ρ [(0, v_a), (1, v_b), (5, I (i : Int))] /\ M.iterN (m_nilometerkit_Same_level_Line_b0 a b) m i = some ex4z /\ St w W [] R) ?_ ?_
  ·exact ⟨_, 0, _, upds_of _ _ ⟨rfl, rfl, rfl, trivial⟩, hi5z, H⟩
  ·rintro m9z σ w7z ⟨i, ρ, rfl, hI8z, H⟩
   obtain ⟨m10z, lt11z, x12z, hM, hN13z⟩ := M.e_iterN hI8z
   simp only [m_nilometerkit_Same_level_Line_b0] at hM
   clear hI8z
   refine W.seq ?_
   refine W.seq ?_
   refine W.region rfl ?_
   refine s_val (x_mv (v := I (i : Int)) rfl) ?_
   refine s_val (x_mv (v := v_a) rfl) ?_
   have hl14z := (hs_a).len_le
   refine s_val (x_lenS T23.und rfl hs_a) ?_
   refine s_val (x_cmp (kd := .i64) (a := (i : Int)) (b := (a.length : Int)) (r := decide ((i : Int) < (a.length : Int))) rfl rfl rfl) ?_
   refine s_nil ?_
   refine W.cond (decide ((i : Int) < (a.length : Int))) rfl (fun c15z => ?_) (fun c15z => ?_)
   ·replace hM := M.e_t hM c15z
    simp only [decide_eq_true_eq, decide_eq_false_iff_not, beq_iff_eq, bne_iff_ne, beq_eq_false_iff_ne, bne_eq_false_iff_eq, ne_eq, Decidable.not_not] at c15z
    refine W.skip ?_
    refine W.seq ?_
    refine W.block ?_
    refine W.seq ?_
    refine W.draw (fun W => St w W [] R) [(0, true), (1, true), (2, true), (3, true), (4, true), (5, true), (6, true), (7, true), (8, true)] mixed (by decide +kernel) rfl ?_
    intro w16z hx_
    replace H : St w w16z [] R := H.ext hx_
    clear hx_
    refine ⟨(H.pick [] (by decide) rfl), ?_⟩
    refine d_q rfl (fun w' H => x_mv (v := v_a) rfl) ?_
    refine d_q rfl (fun w' H => x_mv (v := I (i : Int)) rfl) ?_
    obtain ⟨sd17z, hM⟩ := M.e_grd hM
    simp only [Bool.and_eq_true, decide_eq_true_eq] at sd17z
    refine d_q rfl (fun w' H => x_ix (a := v_a) (b := I (i : Int)) (v := vat v_a 5 (Int.toNat (i : Int))) rfl rfl (Sl.ix (α := Line) T23.und T23.size hs_a (by omega) (by omega))) ?_
    refine d_q rfl (fun w' H => x_ld (p := vat v_a 5 (Int.toNat (i : Int))) (v := .agg #[I ((a.getD i default).src), I ((a.getD i default).dst), I ((a.getD i default).day), I ((a.getD i default).rise), I ((a.getD i default).err)]) rfl (ld_ag Ag34 Sz34 (At.mono (Line_atA hs_a (i := (i : Int)) (by omega) (by omega)) (hC_a.at H)))) ?_
    refine d_q rfl (fun w' H => x_mv (v := v_b) rfl) ?_
    refine d_q rfl (fun w' H => x_mv (v := I (i : Int)) rfl) ?_
    obtain ⟨sd18z, hM⟩ := M.e_grd hM
    simp only [Bool.and_eq_true, decide_eq_true_eq] at sd18z
    refine d_q rfl (fun w' H => x_ix (a := v_b) (b := I (i : Int)) (v := vat v_b 5 (Int.toNat (i : Int))) rfl rfl (Sl.ix (α := Line) T23.und T23.size hs_b (by omega) (by omega))) ?_
    refine d_q rfl (fun w' H => x_ld (p := vat v_b 5 (Int.toNat (i : Int))) (v := .agg #[I ((b.getD i default).src), I ((b.getD i default).dst), I ((b.getD i default).day), I ((b.getD i default).rise), I ((b.getD i default).err)]) rfl (ld_ag Ag34 Sz34 (At.mono (Line_atA hs_b (i := (i : Int)) (by omega) (by omega)) (hC_b.at H)))) ?_
    refine d_q rfl (fun w' H => x_neS (eqT34 (a.getD i default) (b.getD i default) _) gdT34 rfl rfl) ?_
    refine d_nil ?_
    refine W.cond (!(decide ((a.getD i default) = (b.getD i default)))) rfl (fun c19z => ?_) (fun c19z => ?_)
    ·replace hM := M.e_t hM c19z
     refine W.seq ?_
     refine W.region rfl ?_
     refine s_val (x_as (v := B false) rfl) ?_
     refine s_nil ?_
     refine W.ret ?_
     have hX20z := M.e_inr hM hN13z
     subst hX20z
     replace hM := hk6z
     try dsimp only at hM
     have hr_ := M.e_pure hM
     exact ⟨_, resE_tmp rfl, ⟨false, hr_, rfl, H⟩⟩
    ·replace hM := M.e_f hM c19z
     refine W.skip ?_
     refine W.region rfl ?_
     refine s_val (x_mv (v := I (i : Int)) rfl) ?_
     refine s_val (x_ari (a := (i : Int)) (b := 1) (r := (i : Int) + 1) rfl rfl rfl (by omega)) ?_
     refine s_val (x_as (v := I ((i : Int) + 1)) rfl) ?_
     refine s_nil ?_
     exact ⟨m10z, lt11z, i + 1, _, upds_of _ _ ⟨rfl, rfl, rfl, trivial⟩, M.e_inl hM hN13z, H⟩
   ·replace hM := M.e_f hM c15z
    simp only [decide_eq_true_eq, decide_eq_false_iff_not, beq_iff_eq, bne_iff_ne, beq_eq_false_iff_ne, bne_eq_false_iff_eq, ne_eq, Decidable.not_not] at c15z
    refine W.exit ?_
    have hX21z := M.e_inr hM hN13z
    subst hX21z
    replace hM := hk6z
    try dsimp only at hM
    refine W.seq ?_
    refine W.region rfl ?_
    refine s_val (x_as (v := B true) rfl) ?_
    refine s_nil ?_
    refine W.ret ?_
    have hr_ := M.e_pure hM
    exact ⟨_, resE_tmp rfl, ⟨true, hr_, rfl, H⟩⟩

def m_nilometerlaw01_same (a_Marks : Int) (a_Lines : List Line) (b_Marks : Int) (b_Lines : List Line) : M Bool :=
  M.bind (M.opt (a_Marks == b_Marks) (m_nilometerkit_Same_level_Line a_Lines b_Lines) false) fun r2 =>
  M.pure ((a_Marks == b_Marks) && r2)
theorem nilometerlaw01_same_ok {R : List Chunk} {C_a_Lines : Cells} {v_a_Lines : Value} {C_b_Lines : Cells} {v_b_Lines : Value} (a_Marks : Int) (a_Lines : List Line) (b_Marks : Int) (b_Lines : List Line) (hC_a_Lines : Reads R C_a_Lines) (hs_a_Lines : Sl C_a_Lines v_a_Lines a_Lines) (hC_b_Lines : Reads R C_b_Lines) (hs_b_Lines : Sl C_b_Lines v_b_Lines b_Lines) {r : Bool} (hM : (m_nilometerlaw01_same a_Marks a_Lines b_Marks b_Lines).Ends r) (w : World) (H : St w w [] R) : Ret Try.prog 29 #[.agg #[I a_Marks, v_a_Lines], .agg #[I b_Marks, v_b_Lines]] w fun v w' => ∃ (y0 : Bool), y0 = r /\ v = B y0 /\ St w w' [] R := by
 refine ret_of_W Try.func29 rfl rfl rfl ?_
 refine W.seq ?_
 refine W.region rfl ?_
 refine t_box (v := .agg #[I a_Marks, v_a_Lines]) (cs := [I a_Marks, v_a_Lines]) H rfl rfl ?_
 intro b_1 w1z H
 refine t_box (v := .agg #[I b_Marks, v_b_Lines]) (cs := [I b_Marks, v_b_Lines]) H rfl rfl ?_
 intro b_2 w2z H
 refine s_val (x_as (v := B false) rfl) ?_
 refine s_nil ?_
 refine W.seq ?_
 refine W.region rfl ?_
 refine s_val (x_fa (a := .pointer (some ⟨b_1, 0, none⟩)) (v := .pointer (some ⟨b_1, 0, none⟩)) rfl (fa_blk (o := 0) Fd25_0 Sz3)) ?_
 refine s_val (x_ld (p := .pointer (some ⟨b_1, 0, none⟩)) (v := I a_Marks) rfl (ldb_sc Sc3 (H.blk (k := 1) rfl) rfl)) ?_
 refine s_val (x_fa (a := .pointer (some ⟨b_2, 0, none⟩)) (v := .pointer (some ⟨b_2, 0, none⟩)) rfl (fa_blk (o := 0) Fd25_0 Sz3)) ?_
 refine s_val (x_ld (p := .pointer (some ⟨b_2, 0, none⟩)) (v := I b_Marks) rfl (ldb_sc Sc3 (H.blk (k := 0) rfl) rfl)) ?_
 refine s_val (x_cmp (kd := .i64) (a := a_Marks) (b := b_Marks) (r := a_Marks == b_Marks) rfl rfl rfl) ?_
 refine s_val (x_mv (v := B (a_Marks == b_Marks)) rfl) ?_
 refine g_val (a_Marks == b_Marks) (gy_t rfl) (fun hg => x_fa (a := .pointer (some ⟨b_1, 0, none⟩)) (v := .pointer (some ⟨b_1, 1, none⟩)) rfl (fa_blk (o := 0) Fd25_1 Sz23)) ?_
 refine g_val (a_Marks == b_Marks) (gy_t rfl) (fun hg => x_ld (p := .pointer (some ⟨b_1, 1, none⟩)) (v := v_a_Lines) (gd_of (c := a_Marks == b_Marks) hg (.pointer (some ⟨b_1, 1, none⟩))) (ldb_sc Sc23 (H.blk (k := 1) rfl) rfl)) ?_
 refine g_val (a_Marks == b_Marks) (gy_t rfl) (fun hg => x_fa (a := .pointer (some ⟨b_2, 0, none⟩)) (v := .pointer (some ⟨b_2, 1, none⟩)) rfl (fa_blk (o := 0) Fd25_1 Sz23)) ?_
 refine g_val (a_Marks == b_Marks) (gy_t rfl) (fun hg => x_ld (p := .pointer (some ⟨b_2, 1, none⟩)) (v := v_b_Lines) (gd_of (c := a_Marks == b_Marks) hg (.pointer (some ⟨b_2, 1, none⟩))) (ldb_sc Sc23 (H.blk (k := 0) rfl) rfl)) ?_
 obtain ⟨r2, hx3z, hM⟩ := M.e_bind hM
 refine t_gcall (a_Marks == b_Marks) (gy_t rfl) cf71 (B r2) (fun _ => [v_a_Lines, v_b_Lines]) (fun hg => lst2 (gd_of (c := a_Marks == b_Marks) hg (v_a_Lines)) (gd_of (c := a_Marks == b_Marks) hg (v_b_Lines))) H (fun hg => (nilometerkit_Same_level_Line_ok a_Lines b_Lines (hC_a_Lines.app _) hs_a_Lines (hC_b_Lines.app _) hs_b_Lines (M.e_opt hx3z hg) _ (H.give (A := []) rfl)).mono fun v_ w_ ⟨y_, hr_, hv_, H_⟩ => by subst hr_; exact ⟨hv_, H.via H_⟩) ?_
 intro w4z H
 refine s_val (x_pand (b := a_Marks == b_Marks) (r := r2) rfl (fun hb => gd_of (c := a_Marks == b_Marks) (by first | exact hb | (rw [hb]; rfl) | simp_all) (B r2)) rfl) ?_
 refine s_val (x_as (v := B ((a_Marks == b_Marks) && r2)) rfl) ?_
 refine s_nil ?_
 refine W.ret ?_
 have hr_ := M.e_pure hM
 exact ⟨_, resE_tmp rfl, ⟨((a_Marks == b_Marks) && r2), hr_, rfl, (H.pick [] (by decide) rfl)⟩⟩

end Go.Proofs.Ytclhljenjphofaa
end
