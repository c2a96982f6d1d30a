/- Part 4 of the texts on which the proof rests. Conditions: none. -/
import Derived.Test.YtclhljenjphofaaZC3
set_option linter.unusedVariables false
set_option linter.unusedSimpArgs false
set_option linter.unusedSectionVars false
section
set_option maxRecDepth 100000
set_option maxHeartbeats 16000000
namespace Go.Proofs.Ytclhljenjphofaa
open Go Go.Nm
def m_nilometerlaw01_Three (rise : Int) : M (Int × (List Line)) :=
  M.pure (3, ([(⟨(0 : Int), (1 : Int), (5 : Int), (100 : Int), (2 : Int)⟩ : Line), (⟨(1 : Int), (2 : Int), (5 : Int), (50 : Int), (1 : Int)⟩ : Line), (⟨(0 : Int), (2 : Int), (9 : Int), (rise : Int), (3 : Int)⟩ : Line)]))
theorem nilometerlaw01_Three_ok {R : List Chunk}  (rise : Int)  {r : (Int × (List Line))} (hM : (m_nilometerlaw01_Three rise).Ends r) (w : World) (H : St w w [] R) : Ret Try.prog 57 #[I rise] w fun v w' => ∃ (y0 : Int) (y1 : List Line) (u0 : Value), (y0, y1) = r /\ v = .agg #[I y0, u0] /\ St w w' [cOwn (α := Line) 34 u0 y1] R := by
 refine ret_of_W Try.func57 rfl rfl rfl ?_
 refine W.seq ?_
 refine W.region rfl ?_
 refine t_alloc (cs := [I 0, .slice none 0 0]) H Al25 rfl ?_
 intro b_1 w1z H
 refine s_nil ?_
 refine W.seq ?_
 refine W.region rfl ?_
 refine s_val (x_bld (ps := [(0, I 0), (1, I 1), (2, I 5), (3, I 100), (4, I 2)]) (zs := [I 0, I 0, I 0, I 0, I 0]) (L' := [I 0, I 1, I 5, I 100, I 2]) rfl Try.underlying34 Al34 rfl (Bd34 Try.underlying34) (.cons (cs := [I 0]) rfl rfl rfl rfl rfl <| .cons (cs := [I 1]) rfl rfl rfl rfl rfl <| .cons (cs := [I 5]) rfl rfl rfl rfl rfl <| .cons (cs := [I 100]) rfl rfl rfl rfl rfl <| .cons (cs := [I 2]) rfl rfl rfl rfl rfl <| .nil)) ?_
 refine s_val (x_bld (ps := [(0, I 1), (1, I 2), (2, I 5), (3, I 50), (4, I 1)]) (zs := [I 0, I 0, I 0, I 0, I 0]) (L' := [I 1, I 2, I 5, I 50, I 1]) rfl Try.underlying34 Al34 rfl (Bd34 Try.underlying34) (.cons (cs := [I 1]) rfl rfl rfl rfl rfl <| .cons (cs := [I 2]) rfl rfl rfl rfl rfl <| .cons (cs := [I 5]) rfl rfl rfl rfl rfl <| .cons (cs := [I 50]) rfl rfl rfl rfl rfl <| .cons (cs := [I 1]) rfl rfl rfl rfl rfl <| .nil)) ?_
 refine s_val (x_mv (v := I rise) rfl) ?_
 refine s_val (x_bld (ps := [(0, I 0), (1, I 2), (2, I 9), (3, I rise), (4, I 3)]) (zs := [I 0, I 0, I 0, I 0, I 0]) (L' := [I 0, I 2, I 9, I rise, I 3]) rfl Try.underlying34 Al34 rfl (Bd34 Try.underlying34) (.cons (cs := [I 0]) rfl rfl rfl rfl rfl <| .cons (cs := [I 2]) rfl rfl rfl rfl rfl <| .cons (cs := [I 9]) rfl rfl rfl rfl rfl <| .cons (cs := [I rise]) rfl rfl rfl rfl rfl <| .cons (cs := [I 3]) rfl rfl rfl rfl rfl <| .nil)) ?_
 refine t_bs (α := Line) T23 [.agg #[I 0, I 1, I 5, I 100, I 2], .agg #[I 1, I 2, I 5, I 50, I 1], .agg #[I 0, I 2, I 9, I rise, I 3]] [(⟨(0 : Int), (1 : Int), (5 : Int), (100 : Int), (2 : Int)⟩ : Line), (⟨(1 : Int), (2 : Int), (5 : Int), (50 : Int), (1 : Int)⟩ : Line), (⟨(0 : Int), (2 : Int), (9 : Int), (rise : Int), (3 : Int)⟩ : Line)] H rfl (.cons rfl (Flat.rep_enc _ (⟨(0 : Int), (1 : Int), (5 : Int), (100 : Int), (2 : Int)⟩ : Line)) <| .cons rfl (Flat.rep_enc _ (⟨(1 : Int), (2 : Int), (5 : Int), (50 : Int), (1 : Int)⟩ : Line)) <| .cons rfl (Flat.rep_enc _ (⟨(0 : Int), (2 : Int), (9 : Int), (rise : Int), (3 : Int)⟩ : Line)) <| .nil) rfl rfl rfl ?_
 intro v2z w3z H
 refine s_val (x_bld (ps := [(0, I 3), (1, v2z)]) (zs := [I 0, .slice none 0 0]) (L' := [I 3, v2z]) rfl Try.underlying25 Al25 rfl (Bd25 Try.underlying25) (.cons (cs := [I 3]) rfl rfl rfl rfl rfl <| .cons (cs := [v2z]) (Sl.cells (ownSl (H.get (k := 0) rfl))) rfl rfl rfl rfl <| .nil)) ?_
 refine t_st (k := 1) (b := b_1) (off := 0) (cs := [I 0, .slice none 0 0]) (vs := [I 3, v2z]) (cs' := [I 3, v2z]) (v := .agg #[I 3, v2z]) (L' := [cOwn (α := Line) 34 v2z ([(⟨(0 : Int), (1 : Int), (5 : Int), (100 : Int), (2 : Int)⟩ : Line), (⟨(1 : Int), (2 : Int), (5 : Int), (50 : Int), (1 : Int)⟩ : Line), (⟨(0 : Int), (2 : Int), (9 : Int), (rise : Int), (3 : Int)⟩ : Line)]), cBlk b_1 [I 3, v2z] 25]) H rfl rfl rfl Sz25 rfl rfl rfl (by simp only [List.all_cons, List.all_nil, Bool.true_and, Bool.and_true, Sl.oc (ownSl (H.get (k := 0) rfl))]; try rfl) rfl rfl ?_
 intro w4z H
 refine s_nil ?_
 refine W.ret ?_
 have hb5z := (H.blk (k := 1) rfl)
 have hr_ := M.e_pure hM
 exact ⟨_, (resE_of1 (v := .agg #[I 3, v2z]) rfl (.cell (v := .agg #[I 3, v2z]) rfl (run_loadVar_ag (ds := [I 3, v2z]) Ag25 Sz25 hb5z rfl rfl) <| .nil)), ⟨3, ([(⟨(0 : Int), (1 : Int), (5 : Int), (100 : Int), (2 : Int)⟩ : Line), (⟨(1 : Int), (2 : Int), (5 : Int), (50 : Int), (1 : Int)⟩ : Line), (⟨(0 : Int), (2 : Int), (9 : Int), (rise : Int), (3 : Int)⟩ : Line)]), v2z, hr_, rfl, (H.pick [0] (by decide) rfl)⟩⟩

def m_nilometerkit_Same_level_Move_b0 (a : List Mv) (b : List Mv) : Nat -> M (Nat ⊕ (Unit ⊕ Unit)) := fun i =>
  bif decide ((i : Int) < (a.length : Int)) then (
  M.grd (decide ((i : Int) < (a.length : Int))) <|
  M.grd (decide ((i : Int) < (b.length : Int))) <|
  bif !(decide ((a.getD i default) = (b.getD i default))) then (
  M.pure (.inr (.inl ())))
  else (
  M.pure (.inl (i + 1))))
  else (
  M.pure (.inr (.inr ())))
def m_nilometerkit_Same_level_Move (a : List Mv) (b : List Mv) : M Bool :=
  bif (a.length : Int) != (b.length : Int) then (
  M.pure false)
  else (
  M.bind (M.iter (m_nilometerkit_Same_level_Move_b0 a b) 0) fun x_ => match x_ with
  | (.inl (_ : Unit)) => (
  M.pure false)
  | (.inr (_ : Unit)) => (
  M.pure true))
theorem nilometerkit_Same_level_Move_ok {R : List Chunk} {C_a : Cells} {v_a : Value} {C_b : Cells} {v_b : Value} (a : List Mv) (b : List Mv) (hC_a : Reads R C_a) (hs_a : Sl C_a v_a a) (hC_b : Reads R C_b) (hs_b : Sl C_b v_b b) {r : Bool} (hM : (m_nilometerkit_Same_level_Move a b).Ends r) (w : World) (H : St w w [] R) : Ret Try.prog 58 #[v_a, v_b] w fun v w' => ∃ (y0 : Bool), y0 = r /\ v = B y0 /\ St w w' [] R := by
 refine ret_of_W Try.func58 rfl rfl rfl ?_
 refine W.seq ?_
 refine W.region rfl ?_
 refine s_val (x_as (v := B false) rfl) ?_
 refine s_nil ?_
 refine W.seq ?_
 refine W.seq ?_
 refine W.region rfl ?_
 refine s_val (x_mv (v := v_a) rfl) ?_
 have hl1z := (hs_a).len_le
 refine s_val (x_lenS T46.und rfl hs_a) ?_
 refine s_val (x_mv (v := v_b) rfl) ?_
 have hl2z := (hs_b).len_le
 refine s_val (x_lenS T46.und rfl hs_b) ?_
 refine s_val (x_cmp (kd := .i64) (a := (a.length : Int)) (b := (b.length : Int)) (r := (a.length : Int) != (b.length : Int)) rfl rfl rfl) ?_
 refine s_nil ?_
 refine W.cond ((a.length : Int) != (b.length : Int)) rfl (fun c3z => ?_) (fun c3z => ?_)
 ·replace hM := M.e_t hM c3z
  simp only [decide_eq_true_eq, decide_eq_false_iff_not, beq_iff_eq, bne_iff_ne, beq_eq_false_iff_ne, bne_eq_false_iff_eq, ne_eq, Decidable.not_not] at c3z
  refine W.seq ?_
  refine W.region rfl ?_
  refine s_val (x_as (v := B false) rfl) ?_
  refine s_nil ?_
  refine W.ret ?_
  have hr_ := M.e_pure hM
  exact ⟨_, resE_tmp rfl, ⟨false, hr_, rfl, H⟩⟩
 ·replace hM := M.e_f hM c3z
  simp only [decide_eq_true_eq, decide_eq_false_iff_not, beq_iff_eq, bne_iff_ne, beq_eq_false_iff_ne, bne_eq_false_iff_eq, ne_eq, Decidable.not_not] at c3z
  refine W.skip ?_
  refine W.seq ?_
  refine W.seq ?_
  refine W.region rfl ?_
  refine s_val (x_as (v := I 0) rfl) ?_
  refine s_nil ?_
  refine W.block ?_
  obtain ⟨ex4z, hi5z, hk6z⟩ := M.e_bind hM
  obtain ⟨m0_, hi5z⟩ := M.e_iter hi5z
  refine W.loop (fun m σ W => ∃ (i : Nat) (ρ : Env), σ = upds ρ [(0, v_a), (1, v_b), (5, I (i : Int))] /\ M.iterN (m_nilometerkit_Same_level_Move_b0 a b) m i = some ex4z /\ St w W [] R) ?_ ?_
  ·exact ⟨_, 0, _, upds_of _ _ ⟨rfl, rfl, rfl, trivial⟩, hi5z, H⟩
  ·rintro m9z σ w7z ⟨i, ρ, rfl, hI8z, H⟩
   obtain ⟨m10z, lt11z, x12z, hM, hN13z⟩ := M.e_iterN hI8z
   simp only [m_nilometerkit_Same_level_Move_b0] at hM
   clear hI8z
   refine W.seq ?_
   refine W.seq ?_
   refine W.region rfl ?_
   refine s_val (x_mv (v := I (i : Int)) rfl) ?_
   refine s_val (x_mv (v := v_a) rfl) ?_
   have hl14z := (hs_a).len_le
   refine s_val (x_lenS T46.und rfl hs_a) ?_
   refine s_val (x_cmp (kd := .i64) (a := (i : Int)) (b := (a.length : Int)) (r := decide ((i : Int) < (a.length : Int))) rfl rfl rfl) ?_
   refine s_nil ?_
   refine W.cond (decide ((i : Int) < (a.length : Int))) rfl (fun c15z => ?_) (fun c15z => ?_)
   ·replace hM := M.e_t hM c15z
    simp only [decide_eq_true_eq, decide_eq_false_iff_not, beq_iff_eq, bne_iff_ne, beq_eq_false_iff_ne, bne_eq_false_iff_eq, ne_eq, Decidable.not_not] at c15z
    refine W.skip ?_
    refine W.seq ?_
    refine W.block ?_
    refine W.seq ?_
    refine W.draw (fun W => St w W [] R) [(0, true), (1, true), (2, true), (3, true), (4, true), (5, true), (6, true), (7, true), (8, true)] mixed (by decide +kernel) rfl ?_
    intro w16z hx_
    replace H : St w w16z [] R := H.ext hx_
    clear hx_
    refine ⟨(H.pick [] (by decide) rfl), ?_⟩
    refine d_q rfl (fun w' H => x_mv (v := v_a) rfl) ?_
    refine d_q rfl (fun w' H => x_mv (v := I (i : Int)) rfl) ?_
    obtain ⟨sd17z, hM⟩ := M.e_grd hM
    simp only [Bool.and_eq_true, decide_eq_true_eq] at sd17z
    refine d_q rfl (fun w' H => x_ix (a := v_a) (b := I (i : Int)) (v := vat v_a 2 (Int.toNat (i : Int))) rfl rfl (Sl.ix (α := Mv) T46.und T46.size hs_a (by omega) (by omega))) ?_
    refine d_q rfl (fun w' H => x_ld (p := vat v_a 2 (Int.toNat (i : Int))) (v := .agg #[I ((a.getD i default).mark), I ((a.getD i default).day)]) rfl (ld_ag Ag50 Sz50 (At.mono (Mv_atA hs_a (i := (i : Int)) (by omega) (by omega)) (hC_a.at H)))) ?_
    refine d_q rfl (fun w' H => x_mv (v := v_b) rfl) ?_
    refine d_q rfl (fun w' H => x_mv (v := I (i : Int)) rfl) ?_
    obtain ⟨sd18z, hM⟩ := M.e_grd hM
    simp only [Bool.and_eq_true, decide_eq_true_eq] at sd18z
    refine d_q rfl (fun w' H => x_ix (a := v_b) (b := I (i : Int)) (v := vat v_b 2 (Int.toNat (i : Int))) rfl rfl (Sl.ix (α := Mv) T46.und T46.size hs_b (by omega) (by omega))) ?_
    refine d_q rfl (fun w' H => x_ld (p := vat v_b 2 (Int.toNat (i : Int))) (v := .agg #[I ((b.getD i default).mark), I ((b.getD i default).day)]) rfl (ld_ag Ag50 Sz50 (At.mono (Mv_atA hs_b (i := (i : Int)) (by omega) (by omega)) (hC_b.at H)))) ?_
    refine d_q rfl (fun w' H => x_neS (eqT50 (a.getD i default) (b.getD i default) _) gdT50 rfl rfl) ?_
    refine d_nil ?_
    refine W.cond (!(decide ((a.getD i default) = (b.getD i default)))) rfl (fun c19z => ?_) (fun c19z => ?_)
    ·replace hM := M.e_t hM c19z
     refine W.seq ?_
     refine W.region rfl ?_
     refine s_val (x_as (v := B false) rfl) ?_
     refine s_nil ?_
     refine W.ret ?_
     have hX20z := M.e_inr hM hN13z
     subst hX20z
     replace hM := hk6z
     try dsimp only at hM
     have hr_ := M.e_pure hM
     exact ⟨_, resE_tmp rfl, ⟨false, hr_, rfl, H⟩⟩
    ·replace hM := M.e_f hM c19z
     refine W.skip ?_
     refine W.region rfl ?_
     refine s_val (x_mv (v := I (i : Int)) rfl) ?_
     refine s_val (x_ari (a := (i : Int)) (b := 1) (r := (i : Int) + 1) rfl rfl rfl (by omega)) ?_
     refine s_val (x_as (v := I ((i : Int) + 1)) rfl) ?_
     refine s_nil ?_
     exact ⟨m10z, lt11z, i + 1, _, upds_of _ _ ⟨rfl, rfl, rfl, trivial⟩, M.e_inl hM hN13z, H⟩
   ·replace hM := M.e_f hM c15z
    simp only [decide_eq_true_eq, decide_eq_false_iff_not, beq_iff_eq, bne_iff_ne, beq_eq_false_iff_ne, bne_eq_false_iff_eq, ne_eq, Decidable.not_not] at c15z
    refine W.exit ?_
    have hX21z := M.e_inr hM hN13z
    subst hX21z
    replace hM := hk6z
    try dsimp only at hM
    refine W.seq ?_
    refine W.region rfl ?_
    refine s_val (x_as (v := B true) rfl) ?_
    refine s_nil ?_
    refine W.ret ?_
    have hr_ := M.e_pure hM
    exact ⟨_, resE_tmp rfl, ⟨true, hr_, rfl, H⟩⟩

def m_nilometerlaw01_awake : M Bool :=
  M.bind (m_nilometerlaw01_Three 148) fun (r0, r1) =>
  M.bind (m_level_Between r0 r1 0 2) fun (r00, r01, r12) =>
  M.bind (m_nilometerlaw01_Three 148) fun (r02, r13) =>
  M.bind (m_level_Between r02 r13 0 1) fun (r002, r012, r14) =>
  M.bind (m_nilometerlaw01_Three 148) fun (r03, r15) =>
  M.bind (m_level_Rises r03 r15 ([(⟨(1 : Int), true⟩ : Leg), (⟨(0 : Int), true⟩ : Leg)])) fun (r04, r16, r2, r3) =>
  M.bind (m_nilometerlaw01_Three 160) fun (r05, r17) =>
  M.bind (m_level_Agrees r05 r17) fun (r06, r18) =>
  bif ((((((((r12 != 0) || (r14 != 0)) || (r3 != 0)) || (r18 != 0)) || (!(decide ((⟨(r00 : Int), (r01 : Int)⟩ : Span) = (⟨(147 : Int), (151 : Int)⟩ : Span))))) || (!(decide ((⟨(r002 : Int), (r012 : Int)⟩ : Span) = (⟨(98 : Int), (102 : Int)⟩ : Span))))) || (r2 != (-147))) || r06) then (
  M.pure false)
  else (
  M.bind (m_nilometerlaw01_Three 160) fun (r07, r19) =>
  M.bind (m_level_Rises r07 r19 ([(⟨(0 : Int), false⟩ : Leg), (⟨(1 : Int), false⟩ : Leg), (⟨(2 : Int), true⟩ : Leg)])) fun (r08, r110, r22, r32) =>
  M.bind (m_nilometerlaw01_Three 160) fun (r09, r111) =>
  M.bind (m_level_Moves r09 r111) fun (r010, r112) =>
  M.bind (m_nilometerlaw01_Three 160) fun (r011, r113) =>
  M.bind (m_level_Convict r011 r113) fun (r013, r114) =>
  M.bind (m_nilometerlaw01_Three 160) fun (r014, r115) =>
  M.grd (decide ((r115.length + ([(⟨(2 : Int), (1 : Int), (9 : Int), (-50 : Int), (1 : Int)⟩ : Line)]).length) * 40 <= 140737488355328)) <|
  M.bind (m_level_Convict r014 (r115 ++ ([(⟨(2 : Int), (1 : Int), (9 : Int), (-50 : Int), (1 : Int)⟩ : Line)]))) fun (r015, r116) =>
  M.bind (M.opt (((((((r32 == 0) && (r112 == 0)) && (r114 == 11)) && (r116 == 0)) && (r08 == 0)) && (r110 == 0)) && (r22 == (-4))) (m_nilometerkit_Same_level_Move r010 ([(⟨(0 : Int), (6 : Int)⟩ : Mv), (⟨(2 : Int), (6 : Int)⟩ : Mv)])) false) fun r4 =>
  M.pure (((((((((r32 == 0) && (r112 == 0)) && (r114 == 11)) && (r116 == 0)) && (r08 == 0)) && (r110 == 0)) && (r22 == (-4))) && r4) && (r015 == 0)))
theorem nilometerlaw01_awake_ok {R : List Chunk}    {r : Bool} (hM : (m_nilometerlaw01_awake).Ends r) (w : World) (H : St w w [] R) : Ret Try.prog 18 #[] w fun v w' => ∃ (y0 : Bool), y0 = r /\ v = B y0 /\ St w w' [] R := by
 refine ret_of_W Try.func18 rfl rfl rfl ?_
 refine W.seq ?_
 refine W.region rfl ?_
 refine s_val (x_as (v := B false) rfl) ?_
 refine s_nil ?_
 refine W.seq ?_
 refine W.region rfl ?_
 obtain ⟨r2z, hx1z, hM⟩ := M.e_bind hM
 refine s_call cf57 [I 148] rfl (nilometerlaw01_Three_ok 148 hx1z _ (St.give (T := []) H rfl)) ?_
 rintro vq w3z ⟨r0, r1, u0_1, hr4z, hvq, H2_⟩
 subst hr4z
 subst vq
 try dsimp only at hM
 replace H : St w w3z [cOwn (α := Line) 34 u0_1 r1] R := H.back H2_ rfl
 clear H2_
 obtain ⟨r6z, hx5z, hM⟩ := M.e_bind hM
 refine s_call cf17 [.agg #[I r0, u0_1], I 0, I 2] rfl (level_Between_ok r0 r1 0 2 (Reads.of (k := 0) rfl ownLe) (ownSl (H.get (k := 0) rfl)) hx5z _ (St.give (T := [cOwn (α := Line) 34 u0_1 r1]) H rfl)) ?_
 rintro vq w7z ⟨r00, r01, r12, hr8z, hvq, H2_⟩
 subst hr8z
 subst vq
 try dsimp only at hM
 replace H : St w w7z [cOwn (α := Line) 34 u0_1 r1] R := H.back H2_ rfl
 clear H2_
 refine s_val (x_mv (v := .tuple #[.agg #[I r00, I r01], I r12]) rfl) ?_
 refine s_val (x_ext (vs := [.agg #[I r00, I r01], I r12]) (v := .agg #[I r00, I r01]) rfl rfl) ?_
 refine s_val (x_ext (vs := [.agg #[I r00, I r01], I r12]) (v := I r12) rfl rfl) ?_
 refine t_alloc (cs := [I 0, I 0]) H Al37 rfl ?_
 intro b_2 w9z H
 refine t_st (k := 0) (b := b_2) (off := 0) (cs := [I 0, I 0]) (vs := [I r00, I r01]) (cs' := [I r00, I r01]) (v := .agg #[I r00, I r01]) (L' := [cBlk b_2 [I r00, I r01] 37, cOwn (α := Line) 34 u0_1 r1]) H rfl rfl rfl Sz37 rfl rfl rfl rfl rfl rfl ?_
 intro w10z H
 refine s_val (x_as (v := I r12) rfl) ?_
 refine s_nil ?_
 refine W.seq ?_
 refine W.region rfl ?_
 obtain ⟨r12z, hx11z, hM⟩ := M.e_bind hM
 refine s_call cf57 [I 148] rfl (nilometerlaw01_Three_ok 148 hx11z _ (St.give (T := [cBlk b_2 [I r00, I r01] 37, cOwn (α := Line) 34 u0_1 r1]) H rfl)) ?_
 rintro vq w13z ⟨r02, r13, u0_3, hr14z, hvq, H2_⟩
 subst hr14z
 subst vq
 try dsimp only at hM
 replace H : St w w13z [cOwn (α := Line) 34 u0_3 r13, cBlk b_2 [I r00, I r01] 37, cOwn (α := Line) 34 u0_1 r1] R := H.back H2_ rfl
 clear H2_
 obtain ⟨r16z, hx15z, hM⟩ := M.e_bind hM
 refine s_call cf17 [.agg #[I r02, u0_3], I 0, I 1] rfl (level_Between_ok r02 r13 0 1 (Reads.of (k := 0) rfl ownLe) (ownSl (H.get (k := 0) rfl)) hx15z _ (St.give (T := [cOwn (α := Line) 34 u0_3 r13, cBlk b_2 [I r00, I r01] 37, cOwn (α := Line) 34 u0_1 r1]) H rfl)) ?_
 rintro vq w17z ⟨r002, r012, r14, hr18z, hvq, H2_⟩
 subst hr18z
 subst vq
 try dsimp only at hM
 replace H : St w w17z [cOwn (α := Line) 34 u0_3 r13, cBlk b_2 [I r00, I r01] 37, cOwn (α := Line) 34 u0_1 r1] R := H.back H2_ rfl
 clear H2_
 refine s_val (x_mv (v := .tuple #[.agg #[I r002, I r012], I r14]) rfl) ?_
 refine s_val (x_ext (vs := [.agg #[I r002, I r012], I r14]) (v := .agg #[I r002, I r012]) rfl rfl) ?_
 refine s_val (x_ext (vs := [.agg #[I r002, I r012], I r14]) (v := I r14) rfl rfl) ?_
 refine t_alloc (cs := [I 0, I 0]) H Al37 rfl ?_
 intro b_4 w19z H
 refine t_st (k := 0) (b := b_4) (off := 0) (cs := [I 0, I 0]) (vs := [I r002, I r012]) (cs' := [I r002, I r012]) (v := .agg #[I r002, I r012]) (L' := [cBlk b_4 [I r002, I r012] 37, cOwn (α := Line) 34 u0_3 r13, cBlk b_2 [I r00, I r01] 37, cOwn (α := Line) 34 u0_1 r1]) H rfl rfl rfl Sz37 rfl rfl rfl rfl rfl rfl ?_
 intro w20z H
 refine s_val (x_as (v := I r14) rfl) ?_
 refine s_nil ?_
 refine W.seq ?_
 refine W.region rfl ?_
 obtain ⟨r22z, hx21z, hM⟩ := M.e_bind hM
 refine s_call cf57 [I 148] rfl (nilometerlaw01_Three_ok 148 hx21z _ (St.give (T := [cBlk b_4 [I r002, I r012] 37, cOwn (α := Line) 34 u0_3 r13, cBlk b_2 [I r00, I r01] 37, cOwn (α := Line) 34 u0_1 r1]) H rfl)) ?_
 rintro vq w23z ⟨r03, r15, u0_5, hr24z, hvq, H2_⟩
 subst hr24z
 subst vq
 try dsimp only at hM
 replace H : St w w23z [cOwn (α := Line) 34 u0_5 r15, cBlk b_4 [I r002, I r012] 37, cOwn (α := Line) 34 u0_3 r13, cBlk b_2 [I r00, I r01] 37, cOwn (α := Line) 34 u0_1 r1] R := H.back H2_ rfl
 clear H2_
 refine s_val (x_bld (ps := [(0, I 1), (1, B true)]) (zs := [I 0, B false]) (L' := [I 1, B true]) rfl Try.underlying91 Al91 rfl (Bd91 Try.underlying91) (.cons (cs := [I 1]) rfl rfl rfl rfl rfl <| .cons (cs := [B true]) rfl rfl rfl rfl rfl <| .nil)) ?_
 refine s_val (x_bld (ps := [(0, I 0), (1, B true)]) (zs := [I 0, B false]) (L' := [I 0, B true]) rfl Try.underlying91 Al91 rfl (Bd91 Try.underlying91) (.cons (cs := [I 0]) rfl rfl rfl rfl rfl <| .cons (cs := [B true]) rfl rfl rfl rfl rfl <| .nil)) ?_
 refine t_bs (α := Leg) T88 [.agg #[I 1, B true], .agg #[I 0, B true]] [(⟨(1 : Int), true⟩ : Leg), (⟨(0 : Int), true⟩ : Leg)] H rfl (.cons rfl (Flat.rep_enc _ (⟨(1 : Int), true⟩ : Leg)) <| .cons rfl (Flat.rep_enc _ (⟨(0 : Int), true⟩ : Leg)) <| .nil) rfl rfl rfl ?_
 intro v25z w26z H
 obtain ⟨r28z, hx27z, hM⟩ := M.e_bind hM
 refine s_call cf45 [.agg #[I r03, u0_5], v25z] rfl (level_Rises_ok r03 r15 ([(⟨(1 : Int), true⟩ : Leg), (⟨(0 : Int), true⟩ : Leg)]) (Reads.of (k := 1) rfl ownLe) (ownSl (H.get (k := 1) rfl)) (Reads.of (k := 0) rfl ownLe) (ownSl (H.get (k := 0) rfl)) hx27z _ (St.give (T := [cOwn (α := Leg) 91 v25z ([(⟨(1 : Int), true⟩ : Leg), (⟨(0 : Int), true⟩ : Leg)]), cOwn (α := Line) 34 u0_5 r15, cBlk b_4 [I r002, I r012] 37, cOwn (α := Line) 34 u0_3 r13, cBlk b_2 [I r00, I r01] 37, cOwn (α := Line) 34 u0_1 r1]) H rfl)) ?_
 rintro vq w29z ⟨r04, r16, r2, r3, hr30z, hvq, H2_⟩
 subst hr30z
 subst vq
 try dsimp only at hM
 replace H : St w w29z [cOwn (α := Leg) 91 v25z ([(⟨(1 : Int), true⟩ : Leg), (⟨(0 : Int), true⟩ : Leg)]), cOwn (α := Line) 34 u0_5 r15, cBlk b_4 [I r002, I r012] 37, cOwn (α := Line) 34 u0_3 r13, cBlk b_2 [I r00, I r01] 37, cOwn (α := Line) 34 u0_1 r1] R := H.back H2_ rfl
 clear H2_
 refine s_val (x_mv (v := .tuple #[I r04, I r16, I r2, I r3]) rfl) ?_
 refine s_val (x_ext (vs := [I r04, I r16, I r2, I r3]) (v := I r04) rfl rfl) ?_
 refine s_val (x_ext (vs := [I r04, I r16, I r2, I r3]) (v := I r16) rfl rfl) ?_
 refine s_val (x_ext (vs := [I r04, I r16, I r2, I r3]) (v := I r2) rfl rfl) ?_
 refine s_val (x_ext (vs := [I r04, I r16, I r2, I r3]) (v := I r3) rfl rfl) ?_
 refine s_val (x_as (v := I r04) rfl) ?_
 refine s_val (x_as (v := I r16) rfl) ?_
 refine s_val (x_as (v := I r2) rfl) ?_
 refine s_val (x_as (v := I r3) rfl) ?_
 refine s_nil ?_
 refine W.seq ?_
 refine W.region rfl ?_
 obtain ⟨r32z, hx31z, hM⟩ := M.e_bind hM
 refine s_call cf57 [I 160] rfl (nilometerlaw01_Three_ok 160 hx31z _ (St.give (T := [cOwn (α := Leg) 91 v25z ([(⟨(1 : Int), true⟩ : Leg), (⟨(0 : Int), true⟩ : Leg)]), cOwn (α := Line) 34 u0_5 r15, cBlk b_4 [I r002, I r012] 37, cOwn (α := Line) 34 u0_3 r13, cBlk b_2 [I r00, I r01] 37, cOwn (α := Line) 34 u0_1 r1]) H rfl)) ?_
 rintro vq w33z ⟨r05, r17, u0_7, hr34z, hvq, H2_⟩
 subst hr34z
 subst vq
 try dsimp only at hM
 replace H : St w w33z [cOwn (α := Line) 34 u0_7 r17, cOwn (α := Leg) 91 v25z ([(⟨(1 : Int), true⟩ : Leg), (⟨(0 : Int), true⟩ : Leg)]), cOwn (α := Line) 34 u0_5 r15, cBlk b_4 [I r002, I r012] 37, cOwn (α := Line) 34 u0_3 r13, cBlk b_2 [I r00, I r01] 37, cOwn (α := Line) 34 u0_1 r1] R := H.back H2_ rfl
 clear H2_
 obtain ⟨r36z, hx35z, hM⟩ := M.e_bind hM
 refine s_call cf23 [.agg #[I r05, u0_7]] rfl (level_Agrees_ok r05 r17 (Reads.of (k := 0) rfl ownLe) (ownSl (H.get (k := 0) rfl)) hx35z _ (St.give (T := [cOwn (α := Line) 34 u0_7 r17, cOwn (α := Leg) 91 v25z ([(⟨(1 : Int), true⟩ : Leg), (⟨(0 : Int), true⟩ : Leg)]), cOwn (α := Line) 34 u0_5 r15, cBlk b_4 [I r002, I r012] 37, cOwn (α := Line) 34 u0_3 r13, cBlk b_2 [I r00, I r01] 37, cOwn (α := Line) 34 u0_1 r1]) H rfl)) ?_
 rintro vq w37z ⟨r06, r18, hr38z, hvq, H2_⟩
 subst hr38z
 subst vq
 try dsimp only at hM
 replace H : St w w37z [cOwn (α := Line) 34 u0_7 r17, cOwn (α := Leg) 91 v25z ([(⟨(1 : Int), true⟩ : Leg), (⟨(0 : Int), true⟩ : Leg)]), cOwn (α := Line) 34 u0_5 r15, cBlk b_4 [I r002, I r012] 37, cOwn (α := Line) 34 u0_3 r13, cBlk b_2 [I r00, I r01] 37, cOwn (α := Line) 34 u0_1 r1] R := H.back H2_ rfl
 clear H2_
 refine s_val (x_mv (v := .tuple #[B r06, I r18]) rfl) ?_
 refine s_val (x_ext (vs := [B r06, I r18]) (v := B r06) rfl rfl) ?_
 refine s_val (x_ext (vs := [B r06, I r18]) (v := I r18) rfl rfl) ?_
 refine s_val (x_as (v := B r06) rfl) ?_
 refine s_val (x_as (v := I r18) rfl) ?_
 refine s_nil ?_
 refine W.seq ?_
 refine W.seq ?_
 refine W.region rfl ?_
 refine s_val (x_mv (v := I r12) rfl) ?_
 refine s_val (x_cmp (kd := .i64) (a := r12) (b := 0) (r := r12 != 0) rfl rfl rfl) ?_
 refine s_val (x_mv (v := B (r12 != 0)) rfl) ?_
 refine g_val (!(r12 != 0)) (gy_f rfl) (fun hg => x_mv (v := I r14) rfl) ?_
 refine g_val (!(r12 != 0)) (gy_f rfl) (fun hg => x_cmp (kd := .i64) (a := r14) (b := 0) (r := r14 != 0) (gd_of (c := !(r12 != 0)) hg (I r14)) rfl rfl) ?_
 refine s_val (x_por (b := r12 != 0) (r := r14 != 0) rfl rfl (fun hb => gd_of (c := !(r12 != 0)) (by first | exact hb | (rw [hb]; rfl) | simp_all) (B (r14 != 0)))) ?_
 refine s_val (x_mv (v := B ((r12 != 0) || (r14 != 0))) rfl) ?_
 refine g_val (!((r12 != 0) || (r14 != 0))) (gy_f rfl) (fun hg => x_mv (v := I r3) rfl) ?_
 refine g_val (!((r12 != 0) || (r14 != 0))) (gy_f rfl) (fun hg => x_cmp (kd := .i64) (a := r3) (b := 0) (r := r3 != 0) (gd_of (c := !((r12 != 0) || (r14 != 0))) hg (I r3)) rfl rfl) ?_
 refine s_val (x_por (b := ((r12 != 0) || (r14 != 0))) (r := r3 != 0) rfl rfl (fun hb => gd_of (c := !((r12 != 0) || (r14 != 0))) (by first | exact hb | (rw [hb]; rfl) | simp_all) (B (r3 != 0)))) ?_
 refine s_val (x_mv (v := B (((r12 != 0) || (r14 != 0)) || (r3 != 0))) rfl) ?_
 refine g_val (!(((r12 != 0) || (r14 != 0)) || (r3 != 0))) (gy_f rfl) (fun hg => x_mv (v := I r18) rfl) ?_
 refine g_val (!(((r12 != 0) || (r14 != 0)) || (r3 != 0))) (gy_f rfl) (fun hg => x_cmp (kd := .i64) (a := r18) (b := 0) (r := r18 != 0) (gd_of (c := !(((r12 != 0) || (r14 != 0)) || (r3 != 0))) hg (I r18)) rfl rfl) ?_
 refine s_val (x_por (b := (((r12 != 0) || (r14 != 0)) || (r3 != 0))) (r := r18 != 0) rfl rfl (fun hb => gd_of (c := !(((r12 != 0) || (r14 != 0)) || (r3 != 0))) (by first | exact hb | (rw [hb]; rfl) | simp_all) (B (r18 != 0)))) ?_
 refine s_val (x_mv (v := B ((((r12 != 0) || (r14 != 0)) || (r3 != 0)) || (r18 != 0))) rfl) ?_
 refine g_val (!((((r12 != 0) || (r14 != 0)) || (r3 != 0)) || (r18 != 0))) (gy_f rfl) (fun hg => x_ld (p := .pointer (some ⟨b_2, 0, none⟩)) (v := .agg #[I r00, I r01]) rfl (ldb_ag (ds := [I r00, I r01]) Ag37 Sz37 (H.blk (k := 5) rfl) rfl rfl)) ?_
 refine g_val (!((((r12 != 0) || (r14 != 0)) || (r3 != 0)) || (r18 != 0))) (gy_f rfl) (fun hg => x_bld (ps := [(0, I 147), (1, I 151)]) (zs := [I 0, I 0]) (L' := [I 147, I 151]) rfl Try.underlying37 Al37 rfl (Bd37 Try.underlying37) (.cons (cs := [I 147]) rfl rfl rfl rfl rfl <| .cons (cs := [I 151]) rfl rfl rfl rfl rfl <| .nil)) ?_
 refine g_val (!((((r12 != 0) || (r14 != 0)) || (r3 != 0)) || (r18 != 0))) (gy_f rfl) (fun hg => x_neS (eqT37 (⟨(r00 : Int), (r01 : Int)⟩ : Span) (⟨(147 : Int), (151 : Int)⟩ : Span) _) gdT37 (gd_of (c := !((((r12 != 0) || (r14 != 0)) || (r3 != 0)) || (r18 != 0))) hg (.agg #[I r00, I r01])) (gd_of (c := !((((r12 != 0) || (r14 != 0)) || (r3 != 0)) || (r18 != 0))) hg (.agg #[I 147, I 151]))) ?_
 refine s_val (x_por (b := ((((r12 != 0) || (r14 != 0)) || (r3 != 0)) || (r18 != 0))) (r := !(decide ((⟨(r00 : Int), (r01 : Int)⟩ : Span) = (⟨(147 : Int), (151 : Int)⟩ : Span)))) rfl rfl (fun hb => gd_of (c := !((((r12 != 0) || (r14 != 0)) || (r3 != 0)) || (r18 != 0))) (by first | exact hb | (rw [hb]; rfl) | simp_all) (B (!(decide ((⟨(r00 : Int), (r01 : Int)⟩ : Span) = (⟨(147 : Int), (151 : Int)⟩ : Span))))))) ?_
 refine s_val (x_mv (v := B (((((r12 != 0) || (r14 != 0)) || (r3 != 0)) || (r18 != 0)) || (!(decide ((⟨(r00 : Int), (r01 : Int)⟩ : Span) = (⟨(147 : Int), (151 : Int)⟩ : Span)))))) rfl) ?_
 refine g_val (!(((((r12 != 0) || (r14 != 0)) || (r3 != 0)) || (r18 != 0)) || (!(decide ((⟨(r00 : Int), (r01 : Int)⟩ : Span) = (⟨(147 : Int), (151 : Int)⟩ : Span)))))) (gy_f rfl) (fun hg => x_ld (p := .pointer (some ⟨b_4, 0, none⟩)) (v := .agg #[I r002, I r012]) rfl (ldb_ag (ds := [I r002, I r012]) Ag37 Sz37 (H.blk (k := 3) rfl) rfl rfl)) ?_
 refine g_val (!(((((r12 != 0) || (r14 != 0)) || (r3 != 0)) || (r18 != 0)) || (!(decide ((⟨(r00 : Int), (r01 : Int)⟩ : Span) = (⟨(147 : Int), (151 : Int)⟩ : Span)))))) (gy_f rfl) (fun hg => x_bld (ps := [(0, I 98), (1, I 102)]) (zs := [I 0, I 0]) (L' := [I 98, I 102]) rfl Try.underlying37 Al37 rfl (Bd37 Try.underlying37) (.cons (cs := [I 98]) rfl rfl rfl rfl rfl <| .cons (cs := [I 102]) rfl rfl rfl rfl rfl <| .nil)) ?_
 refine g_val (!(((((r12 != 0) || (r14 != 0)) || (r3 != 0)) || (r18 != 0)) || (!(decide ((⟨(r00 : Int), (r01 : Int)⟩ : Span) = (⟨(147 : Int), (151 : Int)⟩ : Span)))))) (gy_f rfl) (fun hg => x_neS (eqT37 (⟨(r002 : Int), (r012 : Int)⟩ : Span) (⟨(98 : Int), (102 : Int)⟩ : Span) _) gdT37 (gd_of (c := !(((((r12 != 0) || (r14 != 0)) || (r3 != 0)) || (r18 != 0)) || (!(decide ((⟨(r00 : Int), (r01 : Int)⟩ : Span) = (⟨(147 : Int), (151 : Int)⟩ : Span)))))) hg (.agg #[I r002, I r012])) (gd_of (c := !(((((r12 != 0) || (r14 != 0)) || (r3 != 0)) || (r18 != 0)) || (!(decide ((⟨(r00 : Int), (r01 : Int)⟩ : Span) = (⟨(147 : Int), (151 : Int)⟩ : Span)))))) hg (.agg #[I 98, I 102]))) ?_
 refine s_val (x_por (b := (((((r12 != 0) || (r14 != 0)) || (r3 != 0)) || (r18 != 0)) || (!(decide ((⟨(r00 : Int), (r01 : Int)⟩ : Span) = (⟨(147 : Int), (151 : Int)⟩ : Span)))))) (r := !(decide ((⟨(r002 : Int), (r012 : Int)⟩ : Span) = (⟨(98 : Int), (102 : Int)⟩ : Span)))) rfl rfl (fun hb => gd_of (c := !(((((r12 != 0) || (r14 != 0)) || (r3 != 0)) || (r18 != 0)) || (!(decide ((⟨(r00 : Int), (r01 : Int)⟩ : Span) = (⟨(147 : Int), (151 : Int)⟩ : Span)))))) (by first | exact hb | (rw [hb]; rfl) | simp_all) (B (!(decide ((⟨(r002 : Int), (r012 : Int)⟩ : Span) = (⟨(98 : Int), (102 : Int)⟩ : Span))))))) ?_
 refine s_val (x_mv (v := B ((((((r12 != 0) || (r14 != 0)) || (r3 != 0)) || (r18 != 0)) || (!(decide ((⟨(r00 : Int), (r01 : Int)⟩ : Span) = (⟨(147 : Int), (151 : Int)⟩ : Span))))) || (!(decide ((⟨(r002 : Int), (r012 : Int)⟩ : Span) = (⟨(98 : Int), (102 : Int)⟩ : Span)))))) rfl) ?_
 refine g_val (!((((((r12 != 0) || (r14 != 0)) || (r3 != 0)) || (r18 != 0)) || (!(decide ((⟨(r00 : Int), (r01 : Int)⟩ : Span) = (⟨(147 : Int), (151 : Int)⟩ : Span))))) || (!(decide ((⟨(r002 : Int), (r012 : Int)⟩ : Span) = (⟨(98 : Int), (102 : Int)⟩ : Span)))))) (gy_f rfl) (fun hg => x_mv (v := I r2) rfl) ?_
 refine g_val (!((((((r12 != 0) || (r14 != 0)) || (r3 != 0)) || (r18 != 0)) || (!(decide ((⟨(r00 : Int), (r01 : Int)⟩ : Span) = (⟨(147 : Int), (151 : Int)⟩ : Span))))) || (!(decide ((⟨(r002 : Int), (r012 : Int)⟩ : Span) = (⟨(98 : Int), (102 : Int)⟩ : Span)))))) (gy_f rfl) (fun hg => x_cmp (kd := .i64) (a := r2) (b := -147) (r := r2 != (-147)) (gd_of (c := !((((((r12 != 0) || (r14 != 0)) || (r3 != 0)) || (r18 != 0)) || (!(decide ((⟨(r00 : Int), (r01 : Int)⟩ : Span) = (⟨(147 : Int), (151 : Int)⟩ : Span))))) || (!(decide ((⟨(r002 : Int), (r012 : Int)⟩ : Span) = (⟨(98 : Int), (102 : Int)⟩ : Span)))))) hg (I r2)) rfl rfl) ?_
 refine s_val (x_por (b := ((((((r12 != 0) || (r14 != 0)) || (r3 != 0)) || (r18 != 0)) || (!(decide ((⟨(r00 : Int), (r01 : Int)⟩ : Span) = (⟨(147 : Int), (151 : Int)⟩ : Span))))) || (!(decide ((⟨(r002 : Int), (r012 : Int)⟩ : Span) = (⟨(98 : Int), (102 : Int)⟩ : Span)))))) (r := r2 != (-147)) rfl rfl (fun hb => gd_of (c := !((((((r12 != 0) || (r14 != 0)) || (r3 != 0)) || (r18 != 0)) || (!(decide ((⟨(r00 : Int), (r01 : Int)⟩ : Span) = (⟨(147 : Int), (151 : Int)⟩ : Span))))) || (!(decide ((⟨(r002 : Int), (r012 : Int)⟩ : Span) = (⟨(98 : Int), (102 : Int)⟩ : Span)))))) (by first | exact hb | (rw [hb]; rfl) | simp_all) (B (r2 != (-147))))) ?_
 refine s_val (x_mv (v := B (((((((r12 != 0) || (r14 != 0)) || (r3 != 0)) || (r18 != 0)) || (!(decide ((⟨(r00 : Int), (r01 : Int)⟩ : Span) = (⟨(147 : Int), (151 : Int)⟩ : Span))))) || (!(decide ((⟨(r002 : Int), (r012 : Int)⟩ : Span) = (⟨(98 : Int), (102 : Int)⟩ : Span))))) || (r2 != (-147)))) rfl) ?_
 refine g_val (!(((((((r12 != 0) || (r14 != 0)) || (r3 != 0)) || (r18 != 0)) || (!(decide ((⟨(r00 : Int), (r01 : Int)⟩ : Span) = (⟨(147 : Int), (151 : Int)⟩ : Span))))) || (!(decide ((⟨(r002 : Int), (r012 : Int)⟩ : Span) = (⟨(98 : Int), (102 : Int)⟩ : Span))))) || (r2 != (-147)))) (gy_f rfl) (fun hg => x_mv (v := B r06) rfl) ?_
 refine s_val (x_por (b := (((((((r12 != 0) || (r14 != 0)) || (r3 != 0)) || (r18 != 0)) || (!(decide ((⟨(r00 : Int), (r01 : Int)⟩ : Span) = (⟨(147 : Int), (151 : Int)⟩ : Span))))) || (!(decide ((⟨(r002 : Int), (r012 : Int)⟩ : Span) = (⟨(98 : Int), (102 : Int)⟩ : Span))))) || (r2 != (-147)))) (r := r06) rfl rfl (fun hb => gd_of (c := !(((((((r12 != 0) || (r14 != 0)) || (r3 != 0)) || (r18 != 0)) || (!(decide ((⟨(r00 : Int), (r01 : Int)⟩ : Span) = (⟨(147 : Int), (151 : Int)⟩ : Span))))) || (!(decide ((⟨(r002 : Int), (r012 : Int)⟩ : Span) = (⟨(98 : Int), (102 : Int)⟩ : Span))))) || (r2 != (-147)))) (by first | exact hb | (rw [hb]; rfl) | simp_all) (B r06))) ?_
 refine s_nil ?_
 refine W.cond ((((((((r12 != 0) || (r14 != 0)) || (r3 != 0)) || (r18 != 0)) || (!(decide ((⟨(r00 : Int), (r01 : Int)⟩ : Span) = (⟨(147 : Int), (151 : Int)⟩ : Span))))) || (!(decide ((⟨(r002 : Int), (r012 : Int)⟩ : Span) = (⟨(98 : Int), (102 : Int)⟩ : Span))))) || (r2 != (-147))) || r06) rfl (fun c39z => ?_) (fun c39z => ?_)
 ·replace hM := M.e_t hM c39z
  refine W.seq ?_
  refine W.region rfl ?_
  refine s_val (x_as (v := B false) rfl) ?_
  refine s_nil ?_
  refine W.ret ?_
  have hr_ := M.e_pure hM
  exact ⟨_, resE_tmp rfl, ⟨false, hr_, rfl, (H.pick [] (by decide) rfl)⟩⟩
 ·replace hM := M.e_f hM c39z
  refine W.skip ?_
  refine W.seq ?_
  refine W.region rfl ?_
  obtain ⟨r41z, hx40z, hM⟩ := M.e_bind hM
  refine s_call cf57 [I 160] rfl (nilometerlaw01_Three_ok 160 hx40z _ (St.give (T := [cOwn (α := Line) 34 u0_7 r17, cOwn (α := Leg) 91 v25z ([(⟨(1 : Int), true⟩ : Leg), (⟨(0 : Int), true⟩ : Leg)]), cOwn (α := Line) 34 u0_5 r15, cBlk b_4 [I r002, I r012] 37, cOwn (α := Line) 34 u0_3 r13, cBlk b_2 [I r00, I r01] 37, cOwn (α := Line) 34 u0_1 r1]) H rfl)) ?_
  rintro vq w42z ⟨r07, r19, u0_8, hr43z, hvq, H2_⟩
  subst hr43z
  subst vq
  try dsimp only at hM
  replace H : St w w42z [cOwn (α := Line) 34 u0_8 r19, cOwn (α := Line) 34 u0_7 r17, cOwn (α := Leg) 91 v25z ([(⟨(1 : Int), true⟩ : Leg), (⟨(0 : Int), true⟩ : Leg)]), cOwn (α := Line) 34 u0_5 r15, cBlk b_4 [I r002, I r012] 37, cOwn (α := Line) 34 u0_3 r13, cBlk b_2 [I r00, I r01] 37, cOwn (α := Line) 34 u0_1 r1] R := H.back H2_ rfl
  clear H2_
  refine s_val (x_bld (ps := [(0, I 0)]) (zs := [I 0, B false]) (L' := [I 0, B false]) rfl Try.underlying91 Al91 rfl (Bd91 Try.underlying91) (.cons (cs := [I 0]) rfl rfl rfl rfl rfl <| .nil)) ?_
  refine s_val (x_bld (ps := [(0, I 1)]) (zs := [I 0, B false]) (L' := [I 1, B false]) rfl Try.underlying91 Al91 rfl (Bd91 Try.underlying91) (.cons (cs := [I 1]) rfl rfl rfl rfl rfl <| .nil)) ?_
  refine s_val (x_bld (ps := [(0, I 2), (1, B true)]) (zs := [I 0, B false]) (L' := [I 2, B true]) rfl Try.underlying91 Al91 rfl (Bd91 Try.underlying91) (.cons (cs := [I 2]) rfl rfl rfl rfl rfl <| .cons (cs := [B true]) rfl rfl rfl rfl rfl <| .nil)) ?_
  refine t_bs (α := Leg) T88 [.agg #[I 0, B false], .agg #[I 1, B false], .agg #[I 2, B true]] [(⟨(0 : Int), false⟩ : Leg), (⟨(1 : Int), false⟩ : Leg), (⟨(2 : Int), true⟩ : Leg)] H rfl (.cons rfl (Flat.rep_enc _ (⟨(0 : Int), false⟩ : Leg)) <| .cons rfl (Flat.rep_enc _ (⟨(1 : Int), false⟩ : Leg)) <| .cons rfl (Flat.rep_enc _ (⟨(2 : Int), true⟩ : Leg)) <| .nil) rfl rfl rfl ?_
  intro v44z w45z H
  obtain ⟨r47z, hx46z, hM⟩ := M.e_bind hM
  refine s_call cf45 [.agg #[I r07, u0_8], v44z] rfl (level_Rises_ok r07 r19 ([(⟨(0 : Int), false⟩ : Leg), (⟨(1 : Int), false⟩ : Leg), (⟨(2 : Int), true⟩ : Leg)]) (Reads.of (k := 1) rfl ownLe) (ownSl (H.get (k := 1) rfl)) (Reads.of (k := 0) rfl ownLe) (ownSl (H.get (k := 0) rfl)) hx46z _ (St.give (T := [cOwn (α := Leg) 91 v44z ([(⟨(0 : Int), false⟩ : Leg), (⟨(1 : Int), false⟩ : Leg), (⟨(2 : Int), true⟩ : Leg)]), cOwn (α := Line) 34 u0_8 r19, cOwn (α := Line) 34 u0_7 r17, cOwn (α := Leg) 91 v25z ([(⟨(1 : Int), true⟩ : Leg), (⟨(0 : Int), true⟩ : Leg)]), cOwn (α := Line) 34 u0_5 r15, cBlk b_4 [I r002, I r012] 37, cOwn (α := Line) 34 u0_3 r13, cBlk b_2 [I r00, I r01] 37, cOwn (α := Line) 34 u0_1 r1]) H rfl)) ?_
  rintro vq w48z ⟨r08, r110, r22, r32, hr49z, hvq, H2_⟩
  subst hr49z
  subst vq
  try dsimp only at hM
  replace H : St w w48z [cOwn (α := Leg) 91 v44z ([(⟨(0 : Int), false⟩ : Leg), (⟨(1 : Int), false⟩ : Leg), (⟨(2 : Int), true⟩ : Leg)]), cOwn (α := Line) 34 u0_8 r19, cOwn (α := Line) 34 u0_7 r17, cOwn (α := Leg) 91 v25z ([(⟨(1 : Int), true⟩ : Leg), (⟨(0 : Int), true⟩ : Leg)]), cOwn (α := Line) 34 u0_5 r15, cBlk b_4 [I r002, I r012] 37, cOwn (α := Line) 34 u0_3 r13, cBlk b_2 [I r00, I r01] 37, cOwn (α := Line) 34 u0_1 r1] R := H.back H2_ rfl
  clear H2_
  refine s_val (x_mv (v := .tuple #[I r08, I r110, I r22, I r32]) rfl) ?_
  refine s_val (x_ext (vs := [I r08, I r110, I r22, I r32]) (v := I r08) rfl rfl) ?_
  refine s_val (x_ext (vs := [I r08, I r110, I r22, I r32]) (v := I r110) rfl rfl) ?_
  refine s_val (x_ext (vs := [I r08, I r110, I r22, I r32]) (v := I r22) rfl rfl) ?_
  refine s_val (x_ext (vs := [I r08, I r110, I r22, I r32]) (v := I r32) rfl rfl) ?_
  refine s_val (x_as (v := I r08) rfl) ?_
  refine s_val (x_as (v := I r110) rfl) ?_
  refine s_val (x_as (v := I r22) rfl) ?_
  refine s_val (x_as (v := I r32) rfl) ?_
  refine s_nil ?_
  refine W.seq ?_
  refine W.region rfl ?_
  obtain ⟨r51z, hx50z, hM⟩ := M.e_bind hM
  refine s_call cf57 [I 160] rfl (nilometerlaw01_Three_ok 160 hx50z _ (St.give (T := [cOwn (α := Leg) 91 v44z ([(⟨(0 : Int), false⟩ : Leg), (⟨(1 : Int), false⟩ : Leg), (⟨(2 : Int), true⟩ : Leg)]), cOwn (α := Line) 34 u0_8 r19, cOwn (α := Line) 34 u0_7 r17, cOwn (α := Leg) 91 v25z ([(⟨(1 : Int), true⟩ : Leg), (⟨(0 : Int), true⟩ : Leg)]), cOwn (α := Line) 34 u0_5 r15, cBlk b_4 [I r002, I r012] 37, cOwn (α := Line) 34 u0_3 r13, cBlk b_2 [I r00, I r01] 37, cOwn (α := Line) 34 u0_1 r1]) H rfl)) ?_
  rintro vq w52z ⟨r09, r111, u0_10, hr53z, hvq, H2_⟩
  subst hr53z
  subst vq
  try dsimp only at hM
  replace H : St w w52z [cOwn (α := Line) 34 u0_10 r111, cOwn (α := Leg) 91 v44z ([(⟨(0 : Int), false⟩ : Leg), (⟨(1 : Int), false⟩ : Leg), (⟨(2 : Int), true⟩ : Leg)]), cOwn (α := Line) 34 u0_8 r19, cOwn (α := Line) 34 u0_7 r17, cOwn (α := Leg) 91 v25z ([(⟨(1 : Int), true⟩ : Leg), (⟨(0 : Int), true⟩ : Leg)]), cOwn (α := Line) 34 u0_5 r15, cBlk b_4 [I r002, I r012] 37, cOwn (α := Line) 34 u0_3 r13, cBlk b_2 [I r00, I r01] 37, cOwn (α := Line) 34 u0_1 r1] R := H.back H2_ rfl
  clear H2_
  obtain ⟨r55z, hx54z, hM⟩ := M.e_bind hM
  refine s_call cf21 [.agg #[I r09, u0_10]] rfl (level_Moves_ok r09 r111 (Reads.of (k := 0) rfl ownLe) (ownSl (H.get (k := 0) rfl)) hx54z _ (St.give (T := [cOwn (α := Line) 34 u0_10 r111, cOwn (α := Leg) 91 v44z ([(⟨(0 : Int), false⟩ : Leg), (⟨(1 : Int), false⟩ : Leg), (⟨(2 : Int), true⟩ : Leg)]), cOwn (α := Line) 34 u0_8 r19, cOwn (α := Line) 34 u0_7 r17, cOwn (α := Leg) 91 v25z ([(⟨(1 : Int), true⟩ : Leg), (⟨(0 : Int), true⟩ : Leg)]), cOwn (α := Line) 34 u0_5 r15, cBlk b_4 [I r002, I r012] 37, cOwn (α := Line) 34 u0_3 r13, cBlk b_2 [I r00, I r01] 37, cOwn (α := Line) 34 u0_1 r1]) H rfl)) ?_
  rintro vq w56z ⟨r010, r112, u0_11, hr57z, hvq, H2_⟩
  subst hr57z
  subst vq
  try dsimp only at hM
  replace H : St w w56z [cOwn (α := Mv) 50 u0_11 r010, cOwn (α := Line) 34 u0_10 r111, cOwn (α := Leg) 91 v44z ([(⟨(0 : Int), false⟩ : Leg), (⟨(1 : Int), false⟩ : Leg), (⟨(2 : Int), true⟩ : Leg)]), cOwn (α := Line) 34 u0_8 r19, cOwn (α := Line) 34 u0_7 r17, cOwn (α := Leg) 91 v25z ([(⟨(1 : Int), true⟩ : Leg), (⟨(0 : Int), true⟩ : Leg)]), cOwn (α := Line) 34 u0_5 r15, cBlk b_4 [I r002, I r012] 37, cOwn (α := Line) 34 u0_3 r13, cBlk b_2 [I r00, I r01] 37, cOwn (α := Line) 34 u0_1 r1] R := H.back H2_ rfl
  clear H2_
  refine s_val (x_mv (v := .tuple #[u0_11, I r112]) rfl) ?_
  refine s_val (x_ext (vs := [u0_11, I r112]) (v := u0_11) rfl rfl) ?_
  refine s_val (x_ext (vs := [u0_11, I r112]) (v := I r112) rfl rfl) ?_
  refine s_val (x_as (v := u0_11) rfl) ?_
  refine s_val (x_as (v := I r112) rfl) ?_
  refine s_nil ?_
  refine W.seq ?_
  refine W.region rfl ?_
  obtain ⟨r59z, hx58z, hM⟩ := M.e_bind hM
  refine s_call cf57 [I 160] rfl (nilometerlaw01_Three_ok 160 hx58z _ (St.give (T := [cOwn (α := Mv) 50 u0_11 r010, cOwn (α := Line) 34 u0_10 r111, cOwn (α := Leg) 91 v44z ([(⟨(0 : Int), false⟩ : Leg), (⟨(1 : Int), false⟩ : Leg), (⟨(2 : Int), true⟩ : Leg)]), cOwn (α := Line) 34 u0_8 r19, cOwn (α := Line) 34 u0_7 r17, cOwn (α := Leg) 91 v25z ([(⟨(1 : Int), true⟩ : Leg), (⟨(0 : Int), true⟩ : Leg)]), cOwn (α := Line) 34 u0_5 r15, cBlk b_4 [I r002, I r012] 37, cOwn (α := Line) 34 u0_3 r13, cBlk b_2 [I r00, I r01] 37, cOwn (α := Line) 34 u0_1 r1]) H rfl)) ?_
  rintro vq w60z ⟨r011, r113, u0_12, hr61z, hvq, H2_⟩
  subst hr61z
  subst vq
  try dsimp only at hM
  replace H : St w w60z [cOwn (α := Line) 34 u0_12 r113, cOwn (α := Mv) 50 u0_11 r010, cOwn (α := Line) 34 u0_10 r111, cOwn (α := Leg) 91 v44z ([(⟨(0 : Int), false⟩ : Leg), (⟨(1 : Int), false⟩ : Leg), (⟨(2 : Int), true⟩ : Leg)]), cOwn (α := Line) 34 u0_8 r19, cOwn (α := Line) 34 u0_7 r17, cOwn (α := Leg) 91 v25z ([(⟨(1 : Int), true⟩ : Leg), (⟨(0 : Int), true⟩ : Leg)]), cOwn (α := Line) 34 u0_5 r15, cBlk b_4 [I r002, I r012] 37, cOwn (α := Line) 34 u0_3 r13, cBlk b_2 [I r00, I r01] 37, cOwn (α := Line) 34 u0_1 r1] R := H.back H2_ rfl
  clear H2_
  obtain ⟨r63z, hx62z, hM⟩ := M.e_bind hM
  refine s_call cf32 [.agg #[I r011, u0_12]] rfl (level_Convict_ok r011 r113 (Reads.of (k := 0) rfl ownLe) (ownSl (H.get (k := 0) rfl)) hx62z _ (St.give (T := [cOwn (α := Line) 34 u0_12 r113, cOwn (α := Mv) 50 u0_11 r010, cOwn (α := Line) 34 u0_10 r111, cOwn (α := Leg) 91 v44z ([(⟨(0 : Int), false⟩ : Leg), (⟨(1 : Int), false⟩ : Leg), (⟨(2 : Int), true⟩ : Leg)]), cOwn (α := Line) 34 u0_8 r19, cOwn (α := Line) 34 u0_7 r17, cOwn (α := Leg) 91 v25z ([(⟨(1 : Int), true⟩ : Leg), (⟨(0 : Int), true⟩ : Leg)]), cOwn (α := Line) 34 u0_5 r15, cBlk b_4 [I r002, I r012] 37, cOwn (α := Line) 34 u0_3 r13, cBlk b_2 [I r00, I r01] 37, cOwn (α := Line) 34 u0_1 r1]) H rfl)) ?_
  rintro vq w64z ⟨r013, r114, hr65z, hvq, H2_⟩
  subst hr65z
  subst vq
  try dsimp only at hM
  replace H : St w w64z [cOwn (α := Line) 34 u0_12 r113, cOwn (α := Mv) 50 u0_11 r010, cOwn (α := Line) 34 u0_10 r111, cOwn (α := Leg) 91 v44z ([(⟨(0 : Int), false⟩ : Leg), (⟨(1 : Int), false⟩ : Leg), (⟨(2 : Int), true⟩ : Leg)]), cOwn (α := Line) 34 u0_8 r19, cOwn (α := Line) 34 u0_7 r17, cOwn (α := Leg) 91 v25z ([(⟨(1 : Int), true⟩ : Leg), (⟨(0 : Int), true⟩ : Leg)]), cOwn (α := Line) 34 u0_5 r15, cBlk b_4 [I r002, I r012] 37, cOwn (α := Line) 34 u0_3 r13, cBlk b_2 [I r00, I r01] 37, cOwn (α := Line) 34 u0_1 r1] R := H.back H2_ rfl
  clear H2_
  refine s_val (x_mv (v := .tuple #[I r013, I r114]) rfl) ?_
  refine s_val (x_ext (vs := [I r013, I r114]) (v := I r013) rfl rfl) ?_
  refine s_val (x_ext (vs := [I r013, I r114]) (v := I r114) rfl rfl) ?_
  refine s_val (x_as (v := I r114) rfl) ?_
  refine s_nil ?_
  refine W.seq ?_
  refine W.region rfl ?_
  obtain ⟨r67z, hx66z, hM⟩ := M.e_bind hM
  refine s_call cf57 [I 160] rfl (nilometerlaw01_Three_ok 160 hx66z _ (St.give (T := [cOwn (α := Line) 34 u0_12 r113, cOwn (α := Mv) 50 u0_11 r010, cOwn (α := Line) 34 u0_10 r111, cOwn (α := Leg) 91 v44z ([(⟨(0 : Int), false⟩ : Leg), (⟨(1 : Int), false⟩ : Leg), (⟨(2 : Int), true⟩ : Leg)]), cOwn (α := Line) 34 u0_8 r19, cOwn (α := Line) 34 u0_7 r17, cOwn (α := Leg) 91 v25z ([(⟨(1 : Int), true⟩ : Leg), (⟨(0 : Int), true⟩ : Leg)]), cOwn (α := Line) 34 u0_5 r15, cBlk b_4 [I r002, I r012] 37, cOwn (α := Line) 34 u0_3 r13, cBlk b_2 [I r00, I r01] 37, cOwn (α := Line) 34 u0_1 r1]) H rfl)) ?_
  rintro vq w68z ⟨r014, r115, u0_13, hr69z, hvq, H2_⟩
  subst hr69z
  subst vq
  try dsimp only at hM
  replace H : St w w68z [cOwn (α := Line) 34 u0_13 r115, cOwn (α := Line) 34 u0_12 r113, cOwn (α := Mv) 50 u0_11 r010, cOwn (α := Line) 34 u0_10 r111, cOwn (α := Leg) 91 v44z ([(⟨(0 : Int), false⟩ : Leg), (⟨(1 : Int), false⟩ : Leg), (⟨(2 : Int), true⟩ : Leg)]), cOwn (α := Line) 34 u0_8 r19, cOwn (α := Line) 34 u0_7 r17, cOwn (α := Leg) 91 v25z ([(⟨(1 : Int), true⟩ : Leg), (⟨(0 : Int), true⟩ : Leg)]), cOwn (α := Line) 34 u0_5 r15, cBlk b_4 [I r002, I r012] 37, cOwn (α := Line) 34 u0_3 r13, cBlk b_2 [I r00, I r01] 37, cOwn (α := Line) 34 u0_1 r1] R := H.back H2_ rfl
  clear H2_
  refine t_alloc (cs := [I 0, .slice none 0 0]) H Al25 rfl ?_
  intro b_14 w70z H
  refine t_st (k := 0) (b := b_14) (off := 0) (cs := [I 0, .slice none 0 0]) (vs := [I r014, u0_13]) (cs' := [I r014, u0_13]) (v := .agg #[I r014, u0_13]) (L' := [cBlk b_14 [I r014, u0_13] 25, cOwn (α := Line) 34 u0_13 r115, cOwn (α := Line) 34 u0_12 r113, cOwn (α := Mv) 50 u0_11 r010, cOwn (α := Line) 34 u0_10 r111, cOwn (α := Leg) 91 v44z ([(⟨(0 : Int), false⟩ : Leg), (⟨(1 : Int), false⟩ : Leg), (⟨(2 : Int), true⟩ : Leg)]), cOwn (α := Line) 34 u0_8 r19, cOwn (α := Line) 34 u0_7 r17, cOwn (α := Leg) 91 v25z ([(⟨(1 : Int), true⟩ : Leg), (⟨(0 : Int), true⟩ : Leg)]), cOwn (α := Line) 34 u0_5 r15, cBlk b_4 [I r002, I r012] 37, cOwn (α := Line) 34 u0_3 r13, cBlk b_2 [I r00, I r01] 37, cOwn (α := Line) 34 u0_1 r1]) H rfl rfl rfl Sz25 rfl rfl rfl (by simp only [List.all_cons, List.all_nil, Bool.true_and, Bool.and_true, Sl.oc (ownSl (H.get (k := 1) rfl))]; try rfl) rfl rfl ?_
  intro w71z H
  refine s_nil ?_
  refine W.seq ?_
  refine W.region rfl ?_
  refine s_val (x_fa (a := .pointer (some ⟨b_14, 0, none⟩)) (v := .pointer (some ⟨b_14, 1, none⟩)) rfl (fa_blk (o := 0) Fd25_1 Sz23)) ?_
  refine s_val (x_ld (p := .pointer (some ⟨b_14, 1, none⟩)) (v := u0_13) rfl (ldb_sc Sc23 (H.blk (k := 0) rfl) rfl)) ?_
  refine s_val (x_bld (ps := [(0, I 2), (1, I 1), (2, I 9), (3, I (-50)), (4, I 1)]) (zs := [I 0, I 0, I 0, I 0, I 0]) (L' := [I 2, I 1, I 9, I (-50), I 1]) rfl Try.underlying34 Al34 rfl (Bd34 Try.underlying34) (.cons (cs := [I 2]) rfl rfl rfl rfl rfl <| .cons (cs := [I 1]) rfl rfl rfl rfl rfl <| .cons (cs := [I 9]) rfl rfl rfl rfl rfl <| .cons (cs := [I (-50)]) rfl rfl rfl rfl rfl <| .cons (cs := [I 1]) rfl rfl rfl rfl rfl <| .nil)) ?_
  refine t_bs (α := Line) T23 [.agg #[I 2, I 1, I 9, I (-50), I 1]] [(⟨(2 : Int), (1 : Int), (9 : Int), (-50 : Int), (1 : Int)⟩ : Line)] H rfl (.cons rfl (Flat.rep_enc _ (⟨(2 : Int), (1 : Int), (9 : Int), (-50 : Int), (1 : Int)⟩ : Line)) <| .nil) rfl rfl rfl ?_
  intro v72z w73z H
  obtain ⟨sd74z, hM⟩ := M.e_grd hM
  simp only [Bool.and_eq_true, decide_eq_true_eq] at sd74z
  refine t_app (α := Line) (k := 2) (l := r115) (l2 := [(⟨(2 : Int), (1 : Int), (9 : Int), (-50 : Int), (1 : Int)⟩ : Line)]) (l' := r115 ++ ([(⟨(2 : Int), (1 : Int), (9 : Int), (-50 : Int), (1 : Int)⟩ : Line)])) (vy := v72z) T23 rfl H rfl rfl rfl (ownSl (H.get (k := 0) rfl)) (ownLe _ (H.get (k := 0) rfl)) (rfl) (by first | omega | (simp only [List.length_nil] at *; omega)) ?_
  intro v75z w76z H
  replace H : St w w76z [cOwn (α := Line) 34 v72z ([(⟨(2 : Int), (1 : Int), (9 : Int), (-50 : Int), (1 : Int)⟩ : Line)]), cBlk b_14 [I r014, u0_13] 25, cOwn (α := Line) 34 v75z (r115 ++ ([(⟨(2 : Int), (1 : Int), (9 : Int), (-50 : Int), (1 : Int)⟩ : Line)])), cOwn (α := Line) 34 u0_12 r113, cOwn (α := Mv) 50 u0_11 r010, cOwn (α := Line) 34 u0_10 r111, cOwn (α := Leg) 91 v44z ([(⟨(0 : Int), false⟩ : Leg), (⟨(1 : Int), false⟩ : Leg), (⟨(2 : Int), true⟩ : Leg)]), cOwn (α := Line) 34 u0_8 r19, cOwn (α := Line) 34 u0_7 r17, cOwn (α := Leg) 91 v25z ([(⟨(1 : Int), true⟩ : Leg), (⟨(0 : Int), true⟩ : Leg)]), cOwn (α := Line) 34 u0_5 r15, cBlk b_4 [I r002, I r012] 37, cOwn (α := Line) 34 u0_3 r13, cBlk b_2 [I r00, I r01] 37, cOwn (α := Line) 34 u0_1 r1] R := H
  refine s_val (x_fa (a := .pointer (some ⟨b_14, 0, none⟩)) (v := .pointer (some ⟨b_14, 1, none⟩)) rfl (fa_blk (o := 0) Fd25_1 Sz23)) ?_
  refine t_st (k := 1) (b := b_14) (off := 1) (cs := [I r014, u0_13]) (vs := [v75z]) (cs' := [I r014, v75z]) (v := v75z) (L' := [cOwn (α := Line) 34 v72z ([(⟨(2 : Int), (1 : Int), (9 : Int), (-50 : Int), (1 : Int)⟩ : Line)]), cBlk b_14 [I r014, v75z] 25, cOwn (α := Line) 34 v75z (r115 ++ ([(⟨(2 : Int), (1 : Int), (9 : Int), (-50 : Int), (1 : Int)⟩ : Line)])), cOwn (α := Line) 34 u0_12 r113, cOwn (α := Mv) 50 u0_11 r010, cOwn (α := Line) 34 u0_10 r111, cOwn (α := Leg) 91 v44z ([(⟨(0 : Int), false⟩ : Leg), (⟨(1 : Int), false⟩ : Leg), (⟨(2 : Int), true⟩ : Leg)]), cOwn (α := Line) 34 u0_8 r19, cOwn (α := Line) 34 u0_7 r17, cOwn (α := Leg) 91 v25z ([(⟨(1 : Int), true⟩ : Leg), (⟨(0 : Int), true⟩ : Leg)]), cOwn (α := Line) 34 u0_5 r15, cBlk b_4 [I r002, I r012] 37, cOwn (α := Line) 34 u0_3 r13, cBlk b_2 [I r00, I r01] 37, cOwn (α := Line) 34 u0_1 r1]) H rfl rfl rfl Sz23 (Sl.cells (ownSl (H.get (k := 2) rfl))) rfl rfl (by simp only [List.all_cons, List.all_nil, Bool.true_and, Bool.and_true, Sl.oc (ownSl (H.get (k := 2) rfl))]; try rfl) rfl rfl ?_
  intro w77z H
  refine s_nil ?_
  refine W.seq ?_
  refine W.region rfl ?_
  refine s_val (x_ld (p := .pointer (some ⟨b_14, 0, none⟩)) (v := .agg #[I r014, v75z]) rfl (ldb_ag (ds := [I r014, v75z]) Ag25 Sz25 (H.blk (k := 1) rfl) rfl rfl)) ?_
  obtain ⟨r79z, hx78z, hM⟩ := M.e_bind hM
  refine s_call cf32 [.agg #[I r014, v75z]] rfl (level_Convict_ok r014 (r115 ++ ([(⟨(2 : Int), (1 : Int), (9 : Int), (-50 : Int), (1 : Int)⟩ : Line)])) (Reads.of (k := 2) rfl ownLe) (ownSl (H.get (k := 2) rfl)) hx78z _ (St.give (T := [cOwn (α := Line) 34 v72z ([(⟨(2 : Int), (1 : Int), (9 : Int), (-50 : Int), (1 : Int)⟩ : Line)]), cBlk b_14 [I r014, v75z] 25, cOwn (α := Line) 34 v75z (r115 ++ ([(⟨(2 : Int), (1 : Int), (9 : Int), (-50 : Int), (1 : Int)⟩ : Line)])), cOwn (α := Line) 34 u0_12 r113, cOwn (α := Mv) 50 u0_11 r010, cOwn (α := Line) 34 u0_10 r111, cOwn (α := Leg) 91 v44z ([(⟨(0 : Int), false⟩ : Leg), (⟨(1 : Int), false⟩ : Leg), (⟨(2 : Int), true⟩ : Leg)]), cOwn (α := Line) 34 u0_8 r19, cOwn (α := Line) 34 u0_7 r17, cOwn (α := Leg) 91 v25z ([(⟨(1 : Int), true⟩ : Leg), (⟨(0 : Int), true⟩ : Leg)]), cOwn (α := Line) 34 u0_5 r15, cBlk b_4 [I r002, I r012] 37, cOwn (α := Line) 34 u0_3 r13, cBlk b_2 [I r00, I r01] 37, cOwn (α := Line) 34 u0_1 r1]) H rfl)) ?_
  rintro vq w80z ⟨r015, r116, hr81z, hvq, H2_⟩
  subst hr81z
  subst vq
  try dsimp only at hM
  replace H : St w w80z [cOwn (α := Line) 34 v72z ([(⟨(2 : Int), (1 : Int), (9 : Int), (-50 : Int), (1 : Int)⟩ : Line)]), cBlk b_14 [I r014, v75z] 25, cOwn (α := Line) 34 v75z (r115 ++ ([(⟨(2 : Int), (1 : Int), (9 : Int), (-50 : Int), (1 : Int)⟩ : Line)])), cOwn (α := Line) 34 u0_12 r113, cOwn (α := Mv) 50 u0_11 r010, cOwn (α := Line) 34 u0_10 r111, cOwn (α := Leg) 91 v44z ([(⟨(0 : Int), false⟩ : Leg), (⟨(1 : Int), false⟩ : Leg), (⟨(2 : Int), true⟩ : Leg)]), cOwn (α := Line) 34 u0_8 r19, cOwn (α := Line) 34 u0_7 r17, cOwn (α := Leg) 91 v25z ([(⟨(1 : Int), true⟩ : Leg), (⟨(0 : Int), true⟩ : Leg)]), cOwn (α := Line) 34 u0_5 r15, cBlk b_4 [I r002, I r012] 37, cOwn (α := Line) 34 u0_3 r13, cBlk b_2 [I r00, I r01] 37, cOwn (α := Line) 34 u0_1 r1] R := H.back H2_ rfl
  clear H2_
  refine s_val (x_mv (v := .tuple #[I r015, I r116]) rfl) ?_
  refine s_val (x_ext (vs := [I r015, I r116]) (v := I r015) rfl rfl) ?_
  refine s_val (x_ext (vs := [I r015, I r116]) (v := I r116) rfl rfl) ?_
  refine s_val (x_as (v := I r015) rfl) ?_
  refine s_val (x_as (v := I r116) rfl) ?_
  refine s_nil ?_
  refine W.seq ?_
  refine W.region rfl ?_
  refine s_val (x_mv (v := I r32) rfl) ?_
  refine s_val (x_cmp (kd := .i64) (a := r32) (b := 0) (r := r32 == 0) rfl rfl rfl) ?_
  refine s_val (x_mv (v := B (r32 == 0)) rfl) ?_
  refine g_val (r32 == 0) (gy_t rfl) (fun hg => x_mv (v := I r112) rfl) ?_
  refine g_val (r32 == 0) (gy_t rfl) (fun hg => x_cmp (kd := .i64) (a := r112) (b := 0) (r := r112 == 0) (gd_of (c := r32 == 0) hg (I r112)) rfl rfl) ?_
  refine s_val (x_pand (b := r32 == 0) (r := r112 == 0) rfl (fun hb => gd_of (c := r32 == 0) (by first | exact hb | (rw [hb]; rfl) | simp_all) (B (r112 == 0))) rfl) ?_
  refine s_val (x_mv (v := B ((r32 == 0) && (r112 == 0))) rfl) ?_
  refine g_val ((r32 == 0) && (r112 == 0)) (gy_t rfl) (fun hg => x_mv (v := I r114) rfl) ?_
  refine g_val ((r32 == 0) && (r112 == 0)) (gy_t rfl) (fun hg => x_cmp (kd := .i64) (a := r114) (b := 11) (r := r114 == 11) (gd_of (c := ((r32 == 0) && (r112 == 0))) hg (I r114)) rfl rfl) ?_
  refine s_val (x_pand (b := ((r32 == 0) && (r112 == 0))) (r := r114 == 11) rfl (fun hb => gd_of (c := ((r32 == 0) && (r112 == 0))) (by first | exact hb | (rw [hb]; rfl) | simp_all) (B (r114 == 11))) rfl) ?_
  refine s_val (x_mv (v := B (((r32 == 0) && (r112 == 0)) && (r114 == 11))) rfl) ?_
  refine g_val (((r32 == 0) && (r112 == 0)) && (r114 == 11)) (gy_t rfl) (fun hg => x_mv (v := I r116) rfl) ?_
  refine g_val (((r32 == 0) && (r112 == 0)) && (r114 == 11)) (gy_t rfl) (fun hg => x_cmp (kd := .i64) (a := r116) (b := 0) (r := r116 == 0) (gd_of (c := (((r32 == 0) && (r112 == 0)) && (r114 == 11))) hg (I r116)) rfl rfl) ?_
  refine s_val (x_pand (b := (((r32 == 0) && (r112 == 0)) && (r114 == 11))) (r := r116 == 0) rfl (fun hb => gd_of (c := (((r32 == 0) && (r112 == 0)) && (r114 == 11))) (by first | exact hb | (rw [hb]; rfl) | simp_all) (B (r116 == 0))) rfl) ?_
  refine s_val (x_mv (v := B ((((r32 == 0) && (r112 == 0)) && (r114 == 11)) && (r116 == 0))) rfl) ?_
  refine g_val ((((r32 == 0) && (r112 == 0)) && (r114 == 11)) && (r116 == 0)) (gy_t rfl) (fun hg => x_mv (v := I r08) rfl) ?_
  refine g_val ((((r32 == 0) && (r112 == 0)) && (r114 == 11)) && (r116 == 0)) (gy_t rfl) (fun hg => x_cmp (kd := .i64) (a := r08) (b := 0) (r := r08 == 0) (gd_of (c := ((((r32 == 0) && (r112 == 0)) && (r114 == 11)) && (r116 == 0))) hg (I r08)) rfl rfl) ?_
  refine s_val (x_pand (b := ((((r32 == 0) && (r112 == 0)) && (r114 == 11)) && (r116 == 0))) (r := r08 == 0) rfl (fun hb => gd_of (c := ((((r32 == 0) && (r112 == 0)) && (r114 == 11)) && (r116 == 0))) (by first | exact hb | (rw [hb]; rfl) | simp_all) (B (r08 == 0))) rfl) ?_
  refine s_val (x_mv (v := B (((((r32 == 0) && (r112 == 0)) && (r114 == 11)) && (r116 == 0)) && (r08 == 0))) rfl) ?_
  refine g_val (((((r32 == 0) && (r112 == 0)) && (r114 == 11)) && (r116 == 0)) && (r08 == 0)) (gy_t rfl) (fun hg => x_mv (v := I r110) rfl) ?_
  refine g_val (((((r32 == 0) && (r112 == 0)) && (r114 == 11)) && (r116 == 0)) && (r08 == 0)) (gy_t rfl) (fun hg => x_cmp (kd := .i64) (a := r110) (b := 0) (r := r110 == 0) (gd_of (c := (((((r32 == 0) && (r112 == 0)) && (r114 == 11)) && (r116 == 0)) && (r08 == 0))) hg (I r110)) rfl rfl) ?_
  refine s_val (x_pand (b := (((((r32 == 0) && (r112 == 0)) && (r114 == 11)) && (r116 == 0)) && (r08 == 0))) (r := r110 == 0) rfl (fun hb => gd_of (c := (((((r32 == 0) && (r112 == 0)) && (r114 == 11)) && (r116 == 0)) && (r08 == 0))) (by first | exact hb | (rw [hb]; rfl) | simp_all) (B (r110 == 0))) rfl) ?_
  refine s_val (x_mv (v := B ((((((r32 == 0) && (r112 == 0)) && (r114 == 11)) && (r116 == 0)) && (r08 == 0)) && (r110 == 0))) rfl) ?_
  refine g_val ((((((r32 == 0) && (r112 == 0)) && (r114 == 11)) && (r116 == 0)) && (r08 == 0)) && (r110 == 0)) (gy_t rfl) (fun hg => x_mv (v := I r22) rfl) ?_
  refine g_val ((((((r32 == 0) && (r112 == 0)) && (r114 == 11)) && (r116 == 0)) && (r08 == 0)) && (r110 == 0)) (gy_t rfl) (fun hg => x_cmp (kd := .i64) (a := r22) (b := -4) (r := r22 == (-4)) (gd_of (c := ((((((r32 == 0) && (r112 == 0)) && (r114 == 11)) && (r116 == 0)) && (r08 == 0)) && (r110 == 0))) hg (I r22)) rfl rfl) ?_
  refine s_val (x_pand (b := ((((((r32 == 0) && (r112 == 0)) && (r114 == 11)) && (r116 == 0)) && (r08 == 0)) && (r110 == 0))) (r := r22 == (-4)) rfl (fun hb => gd_of (c := ((((((r32 == 0) && (r112 == 0)) && (r114 == 11)) && (r116 == 0)) && (r08 == 0)) && (r110 == 0))) (by first | exact hb | (rw [hb]; rfl) | simp_all) (B (r22 == (-4)))) rfl) ?_
  refine s_val (x_mv (v := B (((((((r32 == 0) && (r112 == 0)) && (r114 == 11)) && (r116 == 0)) && (r08 == 0)) && (r110 == 0)) && (r22 == (-4)))) rfl) ?_
  refine g_val (((((((r32 == 0) && (r112 == 0)) && (r114 == 11)) && (r116 == 0)) && (r08 == 0)) && (r110 == 0)) && (r22 == (-4))) (gy_t rfl) (fun hg => x_mv (v := u0_11) rfl) ?_
  refine g_val (((((((r32 == 0) && (r112 == 0)) && (r114 == 11)) && (r116 == 0)) && (r08 == 0)) && (r110 == 0)) && (r22 == (-4))) (gy_t rfl) (fun hg => x_bld (ps := [(0, I 0), (1, I 6)]) (zs := [I 0, I 0]) (L' := [I 0, I 6]) rfl Try.underlying50 Al50 rfl (Bd50 Try.underlying50) (.cons (cs := [I 0]) rfl rfl rfl rfl rfl <| .cons (cs := [I 6]) rfl rfl rfl rfl rfl <| .nil)) ?_
  refine g_val (((((((r32 == 0) && (r112 == 0)) && (r114 == 11)) && (r116 == 0)) && (r08 == 0)) && (r110 == 0)) && (r22 == (-4))) (gy_t rfl) (fun hg => x_bld (ps := [(0, I 2), (1, I 6)]) (zs := [I 0, I 0]) (L' := [I 2, I 6]) rfl Try.underlying50 Al50 rfl (Bd50 Try.underlying50) (.cons (cs := [I 2]) rfl rfl rfl rfl rfl <| .cons (cs := [I 6]) rfl rfl rfl rfl rfl <| .nil)) ?_
  refine t_gbs (α := Mv) T46 (((((((r32 == 0) && (r112 == 0)) && (r114 == 11)) && (r116 == 0)) && (r08 == 0)) && (r110 == 0)) && (r22 == (-4))) (gy_t rfl) [.agg #[I 0, I 6], .agg #[I 2, I 6]] [(⟨(0 : Int), (6 : Int)⟩ : Mv), (⟨(2 : Int), (6 : Int)⟩ : Mv)] H (fun hg => by exact prs2 (gd_of (c := (((((((r32 == 0) && (r112 == 0)) && (r114 == 11)) && (r116 == 0)) && (r08 == 0)) && (r110 == 0)) && (r22 == (-4)))) hg (.agg #[I 0, I 6])) (gd_of (c := (((((((r32 == 0) && (r112 == 0)) && (r114 == 11)) && (r116 == 0)) && (r08 == 0)) && (r110 == 0)) && (r22 == (-4)))) hg (.agg #[I 2, I 6]))) (.cons rfl (Flat.rep_enc _ (⟨(0 : Int), (6 : Int)⟩ : Mv)) <| .cons rfl (Flat.rep_enc _ (⟨(2 : Int), (6 : Int)⟩ : Mv)) <| .nil) rfl rfl rfl ?_
  intro v82z Bs_16 w83z H hf84z
  obtain ⟨r4, hx85z, hM⟩ := M.e_bind hM
  refine t_gcall (((((((r32 == 0) && (r112 == 0)) && (r114 == 11)) && (r116 == 0)) && (r08 == 0)) && (r110 == 0)) && (r22 == (-4))) (gy_t rfl) cf58 (B r4) (fun _ => [u0_11, v82z]) (fun hg => lst2 (gd_of (c := (((((((r32 == 0) && (r112 == 0)) && (r114 == 11)) && (r116 == 0)) && (r08 == 0)) && (r110 == 0)) && (r22 == (-4)))) hg (u0_11)) (gd_of (c := (((((((r32 == 0) && (r112 == 0)) && (r114 == 11)) && (r116 == 0)) && (r08 == 0)) && (r110 == 0)) && (r22 == (-4)))) hg (v82z))) H (fun hg => (nilometerkit_Same_level_Move_ok r010 ([(⟨(0 : Int), (6 : Int)⟩ : Mv), (⟨(2 : Int), (6 : Int)⟩ : Mv)]) (Reads.of (k := 5) rfl ownLe) (ownSl (H.get (k := 5) rfl)) (Reads.of (k := 0) rfl roLe) (hf84z hg) (M.e_opt hx85z hg) _ (H.give (A := []) rfl)).mono fun v_ w_ ⟨y_, hr_, hv_, H_⟩ => by subst hr_; exact ⟨hv_, H.via H_⟩) ?_
  intro w86z H
  refine s_val (x_pand (b := (((((((r32 == 0) && (r112 == 0)) && (r114 == 11)) && (r116 == 0)) && (r08 == 0)) && (r110 == 0)) && (r22 == (-4)))) (r := r4) rfl (fun hb => gd_of (c := (((((((r32 == 0) && (r112 == 0)) && (r114 == 11)) && (r116 == 0)) && (r08 == 0)) && (r110 == 0)) && (r22 == (-4)))) (by first | exact hb | (rw [hb]; rfl) | simp_all) (B r4)) rfl) ?_
  refine s_val (x_mv (v := B ((((((((r32 == 0) && (r112 == 0)) && (r114 == 11)) && (r116 == 0)) && (r08 == 0)) && (r110 == 0)) && (r22 == (-4))) && r4)) rfl) ?_
  refine g_val ((((((((r32 == 0) && (r112 == 0)) && (r114 == 11)) && (r116 == 0)) && (r08 == 0)) && (r110 == 0)) && (r22 == (-4))) && r4) (gy_t rfl) (fun hg => x_mv (v := I r015) rfl) ?_
  refine g_val ((((((((r32 == 0) && (r112 == 0)) && (r114 == 11)) && (r116 == 0)) && (r08 == 0)) && (r110 == 0)) && (r22 == (-4))) && r4) (gy_t rfl) (fun hg => x_cmp (kd := .i64) (a := r015) (b := 0) (r := r015 == 0) (gd_of (c := ((((((((r32 == 0) && (r112 == 0)) && (r114 == 11)) && (r116 == 0)) && (r08 == 0)) && (r110 == 0)) && (r22 == (-4))) && r4)) hg (I r015)) rfl rfl) ?_
  refine s_val (x_pand (b := ((((((((r32 == 0) && (r112 == 0)) && (r114 == 11)) && (r116 == 0)) && (r08 == 0)) && (r110 == 0)) && (r22 == (-4))) && r4)) (r := r015 == 0) rfl (fun hb => gd_of (c := ((((((((r32 == 0) && (r112 == 0)) && (r114 == 11)) && (r116 == 0)) && (r08 == 0)) && (r110 == 0)) && (r22 == (-4))) && r4)) (by first | exact hb | (rw [hb]; rfl) | simp_all) (B (r015 == 0))) rfl) ?_
  refine s_val (x_as (v := B (((((((((r32 == 0) && (r112 == 0)) && (r114 == 11)) && (r116 == 0)) && (r08 == 0)) && (r110 == 0)) && (r22 == (-4))) && r4) && (r015 == 0))) rfl) ?_
  refine s_nil ?_
  refine W.ret ?_
  have hr_ := M.e_pure hM
  exact ⟨_, resE_tmp rfl, ⟨(((((((((r32 == 0) && (r112 == 0)) && (r114 == 11)) && (r116 == 0)) && (r08 == 0)) && (r110 == 0)) && (r22 == (-4))) && r4) && (r015 == 0)), hr_, rfl, (H.pick [] (by decide) rfl)⟩⟩

end Go.Proofs.Ytclhljenjphofaa
end
section
set_option maxRecDepth 100000
set_option maxHeartbeats 16000000
namespace Go.Proofs.Ytclhljenjphofaa
open Go Go.Nm
def m_nilometerkit_New (bytes : List UInt8) : M (Int × Int) :=
  M.pure (0, 0)
theorem nilometerkit_New_ok {R : List Chunk} {C_bytes : Cells} {v_bytes : Value} (bytes : List UInt8) (hC_bytes : Reads R C_bytes) (hs_bytes : Sl C_bytes v_bytes bytes) {r : (Int × Int)} (hM : (m_nilometerkit_New bytes).Ends r) (w : World) (H : St w w [] R) : Ret Try.prog 13 #[v_bytes] w fun v w' => ∃ (y0 : Int) (y1 : Int) (nb0 : Nat), (y0, y1) = r /\ v = .pointer (some ⟨nb0, 0, none⟩) /\ St w w' [cBlk nb0 [v_bytes, I y0, I y1] 109] R := by
 refine ret_of_W Try.func13 rfl rfl rfl ?_
 refine W.seq ?_
 refine W.region rfl ?_
 refine s_val (x_as (v := .pointer none) rfl) ?_
 refine s_nil ?_
 refine W.seq ?_
 refine W.region rfl ?_
 refine s_val (x_mv (v := v_bytes) rfl) ?_
 refine s_val (x_bld (ps := [(0, v_bytes)]) (zs := [.slice none 0 0, I 0, I 0]) (L' := [v_bytes, I 0, I 0]) rfl Try.underlying109 Al109 rfl (Bd109 Try.underlying109) (.cons (cs := [v_bytes]) (Sl.cells hs_bytes) rfl rfl rfl rfl <| .nil)) ?_
 refine t_box (v := .agg #[v_bytes, I 0, I 0]) (cs := [v_bytes, I 0, I 0]) H rfl rfl ?_
 intro b_1 w1z H
 refine s_val (x_as (v := .pointer (some ⟨b_1, 0, none⟩)) rfl) ?_
 refine s_nil ?_
 refine W.ret ?_
 have hr_ := M.e_pure hM
 exact ⟨_, resE_tmp rfl, ⟨0, 0, b_1, hr_, rfl, H⟩⟩

def m_nilometerkit_Stream_Next (s_bytes : List UInt8) (s_used : Int) (s_mix : Int) (n : Int) : M (Int × Int × Int) :=
  bif ((decide (n < 2)) || ((s_bytes.length : Int) == 0)) then (
  M.pure (0, s_used, s_mix))
  else (
  M.grd (decide ((0 : Int) <= s_used) && decide ((0 : Int) < (s_bytes.length : Int))) <|
  M.grd (decide ((0 : Int) <= (s_used % (s_bytes.length : Int))) && decide ((s_used % (s_bytes.length : Int)) < (s_bytes.length : Int))) <|
  M.grd (decide ((0 : Int) <= ((s_bytes.getD (Int.toNat (s_used % (s_bytes.length : Int))) 0).toNat : Int)) && decide (((s_bytes.getD (Int.toNat (s_used % (s_bytes.length : Int))) 0).toNat : Int) < (256 : Int))) <|
  bif decide ((s_bytes.length : Int) <= s_used) then (
  M.grd (decide ((-9223372036854775808 : Int) <= (11 * s_mix)) && decide ((11 * s_mix) <= (9223372036854775807 : Int))) <|
  M.grd (decide (0 <= s_used) && decide (s_used <= (9223372036854775807 : Int)) && decide ((0 : Int) < (s_bytes.length : Int))) <|
  M.grd (decide ((-9223372036854775808 : Int) <= ((11 * s_mix) + (s_used / (s_bytes.length : Int)))) && decide (((11 * s_mix) + (s_used / (s_bytes.length : Int))) <= (9223372036854775807 : Int))) <|
  M.grd (decide ((-9223372036854775808 : Int) <= (((s_bytes.getD (Int.toNat (s_used % (s_bytes.length : Int))) 0).toNat : Int) + ((11 * s_mix) + (s_used / (s_bytes.length : Int))))) && decide ((((s_bytes.getD (Int.toNat (s_used % (s_bytes.length : Int))) 0).toNat : Int) + ((11 * s_mix) + (s_used / (s_bytes.length : Int)))) <= (9223372036854775807 : Int))) <|
  M.grd (decide ((-9223372036854775808 : Int) <= (5 * s_mix)) && decide ((5 * s_mix) <= (9223372036854775807 : Int))) <|
  M.grd (decide ((-9223372036854775808 : Int) <= ((5 * s_mix) + (((s_bytes.getD (Int.toNat (s_used % (s_bytes.length : Int))) 0).toNat : Int) + ((11 * s_mix) + (s_used / (s_bytes.length : Int)))))) && decide (((5 * s_mix) + (((s_bytes.getD (Int.toNat (s_used % (s_bytes.length : Int))) 0).toNat : Int) + ((11 * s_mix) + (s_used / (s_bytes.length : Int))))) <= (9223372036854775807 : Int))) <|
  M.grd (decide ((-9223372036854775808 : Int) <= (((5 * s_mix) + (((s_bytes.getD (Int.toNat (s_used % (s_bytes.length : Int))) 0).toNat : Int) + ((11 * s_mix) + (s_used / (s_bytes.length : Int))))) + 1)) && decide ((((5 * s_mix) + (((s_bytes.getD (Int.toNat (s_used % (s_bytes.length : Int))) 0).toNat : Int) + ((11 * s_mix) + (s_used / (s_bytes.length : Int))))) + 1) <= (9223372036854775807 : Int))) <|
  M.grd (decide ((0 : Int) <= (((5 * s_mix) + (((s_bytes.getD (Int.toNat (s_used % (s_bytes.length : Int))) 0).toNat : Int) + ((11 * s_mix) + (s_used / (s_bytes.length : Int))))) + 1)) && decide ((0 : Int) < 251)) <|
  M.grd (decide ((-9223372036854775808 : Int) <= (s_used + 1)) && decide ((s_used + 1) <= (9223372036854775807 : Int))) <|
  bif decide (256 < n) then (
  M.grd (decide ((-9223372036854775808 : Int) <= (256 * (((s_bytes.getD (Int.toNat (s_used % (s_bytes.length : Int))) 0).toNat : Int) + ((11 * s_mix) + (s_used / (s_bytes.length : Int)))))) && decide ((256 * (((s_bytes.getD (Int.toNat (s_used % (s_bytes.length : Int))) 0).toNat : Int) + ((11 * s_mix) + (s_used / (s_bytes.length : Int))))) <= (9223372036854775807 : Int))) <|
  M.grd (decide ((-9223372036854775808 : Int) <= ((256 * (((s_bytes.getD (Int.toNat (s_used % (s_bytes.length : Int))) 0).toNat : Int) + ((11 * s_mix) + (s_used / (s_bytes.length : Int))))) + ((((5 * s_mix) + (((s_bytes.getD (Int.toNat (s_used % (s_bytes.length : Int))) 0).toNat : Int) + ((11 * s_mix) + (s_used / (s_bytes.length : Int))))) + 1) % 251))) && decide (((256 * (((s_bytes.getD (Int.toNat (s_used % (s_bytes.length : Int))) 0).toNat : Int) + ((11 * s_mix) + (s_used / (s_bytes.length : Int))))) + ((((5 * s_mix) + (((s_bytes.getD (Int.toNat (s_used % (s_bytes.length : Int))) 0).toNat : Int) + ((11 * s_mix) + (s_used / (s_bytes.length : Int))))) + 1) % 251)) <= (9223372036854775807 : Int))) <|
  M.grd (decide ((0 : Int) <= ((256 * (((s_bytes.getD (Int.toNat (s_used % (s_bytes.length : Int))) 0).toNat : Int) + ((11 * s_mix) + (s_used / (s_bytes.length : Int))))) + ((((5 * s_mix) + (((s_bytes.getD (Int.toNat (s_used % (s_bytes.length : Int))) 0).toNat : Int) + ((11 * s_mix) + (s_used / (s_bytes.length : Int))))) + 1) % 251))) && decide ((0 : Int) < n)) <|
  M.pure ((((256 * (((s_bytes.getD (Int.toNat (s_used % (s_bytes.length : Int))) 0).toNat : Int) + ((11 * s_mix) + (s_used / (s_bytes.length : Int))))) + ((((5 * s_mix) + (((s_bytes.getD (Int.toNat (s_used % (s_bytes.length : Int))) 0).toNat : Int) + ((11 * s_mix) + (s_used / (s_bytes.length : Int))))) + 1) % 251)) % n), (s_used + 1), ((((5 * s_mix) + (((s_bytes.getD (Int.toNat (s_used % (s_bytes.length : Int))) 0).toNat : Int) + ((11 * s_mix) + (s_used / (s_bytes.length : Int))))) + 1) % 251)))
  else (
  M.grd (decide ((0 : Int) <= (((s_bytes.getD (Int.toNat (s_used % (s_bytes.length : Int))) 0).toNat : Int) + ((11 * s_mix) + (s_used / (s_bytes.length : Int))))) && decide ((0 : Int) < n)) <|
  M.pure (((((s_bytes.getD (Int.toNat (s_used % (s_bytes.length : Int))) 0).toNat : Int) + ((11 * s_mix) + (s_used / (s_bytes.length : Int)))) % n), (s_used + 1), ((((5 * s_mix) + (((s_bytes.getD (Int.toNat (s_used % (s_bytes.length : Int))) 0).toNat : Int) + ((11 * s_mix) + (s_used / (s_bytes.length : Int))))) + 1) % 251))))
  else (
  M.grd (decide ((-9223372036854775808 : Int) <= (5 * s_mix)) && decide ((5 * s_mix) <= (9223372036854775807 : Int))) <|
  M.grd (decide ((-9223372036854775808 : Int) <= ((5 * s_mix) + ((s_bytes.getD (Int.toNat (s_used % (s_bytes.length : Int))) 0).toNat : Int))) && decide (((5 * s_mix) + ((s_bytes.getD (Int.toNat (s_used % (s_bytes.length : Int))) 0).toNat : Int)) <= (9223372036854775807 : Int))) <|
  M.grd (decide ((-9223372036854775808 : Int) <= (((5 * s_mix) + ((s_bytes.getD (Int.toNat (s_used % (s_bytes.length : Int))) 0).toNat : Int)) + 1)) && decide ((((5 * s_mix) + ((s_bytes.getD (Int.toNat (s_used % (s_bytes.length : Int))) 0).toNat : Int)) + 1) <= (9223372036854775807 : Int))) <|
  M.grd (decide ((0 : Int) <= (((5 * s_mix) + ((s_bytes.getD (Int.toNat (s_used % (s_bytes.length : Int))) 0).toNat : Int)) + 1)) && decide ((0 : Int) < 251)) <|
  M.grd (decide ((-9223372036854775808 : Int) <= (s_used + 1)) && decide ((s_used + 1) <= (9223372036854775807 : Int))) <|
  bif decide (256 < n) then (
  M.grd (decide ((-9223372036854775808 : Int) <= (256 * ((s_bytes.getD (Int.toNat (s_used % (s_bytes.length : Int))) 0).toNat : Int))) && decide ((256 * ((s_bytes.getD (Int.toNat (s_used % (s_bytes.length : Int))) 0).toNat : Int)) <= (9223372036854775807 : Int))) <|
  M.grd (decide ((-9223372036854775808 : Int) <= ((256 * ((s_bytes.getD (Int.toNat (s_used % (s_bytes.length : Int))) 0).toNat : Int)) + ((((5 * s_mix) + ((s_bytes.getD (Int.toNat (s_used % (s_bytes.length : Int))) 0).toNat : Int)) + 1) % 251))) && decide (((256 * ((s_bytes.getD (Int.toNat (s_used % (s_bytes.length : Int))) 0).toNat : Int)) + ((((5 * s_mix) + ((s_bytes.getD (Int.toNat (s_used % (s_bytes.length : Int))) 0).toNat : Int)) + 1) % 251)) <= (9223372036854775807 : Int))) <|
  M.grd (decide ((0 : Int) <= ((256 * ((s_bytes.getD (Int.toNat (s_used % (s_bytes.length : Int))) 0).toNat : Int)) + ((((5 * s_mix) + ((s_bytes.getD (Int.toNat (s_used % (s_bytes.length : Int))) 0).toNat : Int)) + 1) % 251))) && decide ((0 : Int) < n)) <|
  M.pure ((((256 * ((s_bytes.getD (Int.toNat (s_used % (s_bytes.length : Int))) 0).toNat : Int)) + ((((5 * s_mix) + ((s_bytes.getD (Int.toNat (s_used % (s_bytes.length : Int))) 0).toNat : Int)) + 1) % 251)) % n), (s_used + 1), ((((5 * s_mix) + ((s_bytes.getD (Int.toNat (s_used % (s_bytes.length : Int))) 0).toNat : Int)) + 1) % 251)))
  else (
  M.grd (decide ((0 : Int) <= ((s_bytes.getD (Int.toNat (s_used % (s_bytes.length : Int))) 0).toNat : Int)) && decide ((0 : Int) < n)) <|
  M.pure ((((s_bytes.getD (Int.toNat (s_used % (s_bytes.length : Int))) 0).toNat : Int) % n), (s_used + 1), ((((5 * s_mix) + ((s_bytes.getD (Int.toNat (s_used % (s_bytes.length : Int))) 0).toNat : Int)) + 1) % 251)))))
theorem nilometerkit_Stream_Next_ok {R : List Chunk} {b_s : Nat} {C_s_bytes : Cells} {v_s_bytes : Value} (s_bytes : List UInt8) (s_used : Int) (s_mix : Int) (n : Int) (hC_s_bytes : Reads R C_s_bytes) (hs_s_bytes : Sl C_s_bytes v_s_bytes s_bytes) {r : (Int × Int × Int)} (hM : (m_nilometerkit_Stream_Next s_bytes s_used s_mix n).Ends r) (w : World) (H : St w w [cBlk b_s [v_s_bytes, I s_used, I s_mix] 109] R) : Ret Try.prog 14 #[.pointer (some ⟨b_s, 0, none⟩), I n] w fun v w' => ∃ (y0 : Int) (y1 : Int) (y2 : Int), (y0, y1, y2) = r /\ v = I y0 /\ St w w' [cBlk b_s [v_s_bytes, I y1, I y2] 109] R := by
 refine ret_of_W Try.func14 rfl rfl rfl ?_
 refine W.seq ?_
 refine W.region rfl ?_
 refine s_val (x_as (v := I 0) rfl) ?_
 refine s_nil ?_
 refine W.seq ?_
 refine W.seq ?_
 refine W.region rfl ?_
 refine s_val (x_mv (v := I n) rfl) ?_
 refine s_val (x_cmp (kd := .i64) (a := n) (b := 2) (r := decide (n < 2)) rfl rfl rfl) ?_
 refine s_val (x_mv (v := B (decide (n < 2))) rfl) ?_
 refine g_val (!(decide (n < 2))) (gy_f rfl) (fun hg => x_mv (v := .pointer (some ⟨b_s, 0, none⟩)) rfl) ?_
 refine g_val (!(decide (n < 2))) (gy_f rfl) (fun hg => x_nc (a := ⟨b_s, 0, none⟩) (gd_of (c := !(decide (n < 2))) hg (.pointer (some ⟨b_s, 0, none⟩)))) ?_
 refine g_val (!(decide (n < 2))) (gy_f rfl) (fun hg => x_fa (a := .pointer (some ⟨b_s, 0, none⟩)) (v := .pointer (some ⟨b_s, 0, none⟩)) (gd_of (c := !(decide (n < 2))) hg (.pointer (some ⟨b_s, 0, none⟩))) (fa_blk (o := 0) Fd109_0 Sz22)) ?_
 refine g_val (!(decide (n < 2))) (gy_f rfl) (fun hg => x_ld (p := .pointer (some ⟨b_s, 0, none⟩)) (v := v_s_bytes) (gd_of (c := !(decide (n < 2))) hg (.pointer (some ⟨b_s, 0, none⟩))) (ldb_sc Sc22 (H.blk (k := 0) rfl) rfl)) ?_
 refine g_val (!(decide (n < 2))) (gy_f rfl) (fun hg => x_lenS T22.und (gd_of (c := !(decide (n < 2))) hg (v_s_bytes)) hs_s_bytes) ?_
 refine g_val (!(decide (n < 2))) (gy_f rfl) (fun hg => x_cmp (kd := .i64) (a := (s_bytes.length : Int)) (b := 0) (r := (s_bytes.length : Int) == 0) (gd_of (c := !(decide (n < 2))) hg (I (s_bytes.length : Int))) rfl rfl) ?_
 refine s_val (x_por (b := decide (n < 2)) (r := (s_bytes.length : Int) == 0) rfl rfl (fun hb => gd_of (c := !(decide (n < 2))) (by first | exact hb | (rw [hb]; rfl) | simp_all) (B ((s_bytes.length : Int) == 0)))) ?_
 refine s_nil ?_
 refine W.cond ((decide (n < 2)) || ((s_bytes.length : Int) == 0)) rfl (fun c2z => ?_) (fun c2z => ?_)
 ·replace hM := M.e_t hM c2z
  refine W.seq ?_
  refine W.region rfl ?_
  refine s_val (x_as (v := I 0) rfl) ?_
  refine s_nil ?_
  refine W.ret ?_
  have hr_ := M.e_pure hM
  exact ⟨_, resE_tmp rfl, ⟨0, s_used, s_mix, hr_, rfl, H⟩⟩
 ·replace hM := M.e_f hM c2z
  refine W.skip ?_
  refine W.seq ?_
  refine W.draw (fun W => St w W [cBlk b_s [v_s_bytes, I s_used, I s_mix] 109] R) [(0, true), (1, true), (2, true), (3, true), (4, true), (5, true), (6, true), (7, true), (8, true), (9, true), (10, true), (11, true), (12, true), (13, true), (14, true), (15, true), (16, true), (17, true)] mixed (by decide +kernel) rfl ?_
  intro w3z hx_
  replace H : St w w3z [cBlk b_s [v_s_bytes, I s_used, I s_mix] 109] R := H.ext hx_
  clear hx_
  refine ⟨(H.pick [0] (by decide) rfl), ?_⟩
  refine d_q rfl (fun w' H => x_mv (v := .pointer (some ⟨b_s, 0, none⟩)) rfl) ?_
  refine d_q rfl (fun w' H => x_nc (a := ⟨b_s, 0, none⟩) rfl) ?_
  refine d_q rfl (fun w' H => x_fa (a := .pointer (some ⟨b_s, 0, none⟩)) (v := .pointer (some ⟨b_s, 0, none⟩)) rfl (fa_blk (o := 0) Fd109_0 Sz22)) ?_
  refine d_q rfl (fun w' H => x_ld (p := .pointer (some ⟨b_s, 0, none⟩)) (v := v_s_bytes) rfl (ldb_sc Sc22 (H.blk (k := 0) rfl) rfl)) ?_
  refine d_q rfl (fun w' H => x_mv (v := .pointer (some ⟨b_s, 0, none⟩)) rfl) ?_
  refine d_q rfl (fun w' H => x_nc (a := ⟨b_s, 0, none⟩) rfl) ?_
  refine d_q rfl (fun w' H => x_fa (a := .pointer (some ⟨b_s, 0, none⟩)) (v := .pointer (some ⟨b_s, 1, none⟩)) rfl (fa_blk (o := 0) Fd109_1 Sz3)) ?_
  refine d_q rfl (fun w' H => x_ld (p := .pointer (some ⟨b_s, 1, none⟩)) (v := I s_used) rfl (ldb_sc Sc3 (H.blk (k := 0) rfl) rfl)) ?_
  refine d_q rfl (fun w' H => x_mv (v := .pointer (some ⟨b_s, 0, none⟩)) rfl) ?_
  refine d_q rfl (fun w' H => x_nc (a := ⟨b_s, 0, none⟩) rfl) ?_
  refine d_q rfl (fun w' H => x_fa (a := .pointer (some ⟨b_s, 0, none⟩)) (v := .pointer (some ⟨b_s, 0, none⟩)) rfl (fa_blk (o := 0) Fd109_0 Sz22)) ?_
  refine d_q rfl (fun w' H => x_ld (p := .pointer (some ⟨b_s, 0, none⟩)) (v := v_s_bytes) rfl (ldb_sc Sc22 (H.blk (k := 0) rfl) rfl)) ?_
  have hl4z := (hs_s_bytes).len_le
  refine d_q rfl (fun w' H => x_lenS T22.und rfl hs_s_bytes) ?_
  obtain ⟨sd5z, hM⟩ := M.e_grd hM
  simp only [Bool.and_eq_true, decide_eq_true_eq] at sd5z
  refine d_q rfl (fun w' H => x_rem' (a := s_used) (b := (s_bytes.length : Int)) rfl rfl (by omega)) ?_
  obtain ⟨sd6z, hM⟩ := M.e_grd hM
  simp only [Bool.and_eq_true, decide_eq_true_eq] at sd6z
  refine d_q rfl (fun w' H => x_ix (a := v_s_bytes) (b := I (s_used % (s_bytes.length : Int))) (v := vat v_s_bytes 1 (Int.toNat (s_used % (s_bytes.length : Int)))) rfl rfl (Sl.ix (α := UInt8) T22.und T22.size hs_s_bytes (by omega) (by omega))) ?_
  refine d_q rfl (fun w' H => x_ld (p := vat v_s_bytes 1 (Int.toNat (s_used % (s_bytes.length : Int)))) (v := .int .u8 (((s_bytes.getD (Int.toNat (s_used % (s_bytes.length : Int))) 0).toNat : Int))) rfl (ld_sc Sc5 (At.mono (UInt8_at hs_s_bytes (i := s_used % (s_bytes.length : Int)) (by omega) (by omega)) (hC_s_bytes.at H)))) ?_
  obtain ⟨sd7z, hM⟩ := M.e_grd hM
  simp only [Bool.and_eq_true, decide_eq_true_eq] at sd7z
  refine d_q rfl (fun w' H => x_conv64 (kd := .u8) (a := ((s_bytes.getD (Int.toNat (s_used % (s_bytes.length : Int))) 0).toNat : Int)) Try.underlying5 Try.underlying3 rfl (by omega)) ?_
  refine d_q rfl (fun w' H => x_as (v := I ((s_bytes.getD (Int.toNat (s_used % (s_bytes.length : Int))) 0).toNat : Int)) rfl) ?_
  refine d_nil ?_
  refine W.seq ?_
  refine W.seq ?_
  refine W.draw (fun W => St w W [cBlk b_s [v_s_bytes, I s_used, I s_mix] 109] R) [(0, true), (1, true), (2, true), (3, true), (4, true), (5, true), (6, true), (7, true), (8, true), (9, true)] mixed (by decide +kernel) rfl ?_
  intro w8z hx_
  replace H : St w w8z [cBlk b_s [v_s_bytes, I s_used, I s_mix] 109] R := H.ext hx_
  clear hx_
  refine ⟨(H.pick [0] (by decide) rfl), ?_⟩
  refine d_q rfl (fun w' H => x_mv (v := .pointer (some ⟨b_s, 0, none⟩)) rfl) ?_
  refine d_q rfl (fun w' H => x_nc (a := ⟨b_s, 0, none⟩) rfl) ?_
  refine d_q rfl (fun w' H => x_fa (a := .pointer (some ⟨b_s, 0, none⟩)) (v := .pointer (some ⟨b_s, 1, none⟩)) rfl (fa_blk (o := 0) Fd109_1 Sz3)) ?_
  refine d_q rfl (fun w' H => x_ld (p := .pointer (some ⟨b_s, 1, none⟩)) (v := I s_used) rfl (ldb_sc Sc3 (H.blk (k := 0) rfl) rfl)) ?_
  refine d_q rfl (fun w' H => x_mv (v := .pointer (some ⟨b_s, 0, none⟩)) rfl) ?_
  refine d_q rfl (fun w' H => x_nc (a := ⟨b_s, 0, none⟩) rfl) ?_
  refine d_q rfl (fun w' H => x_fa (a := .pointer (some ⟨b_s, 0, none⟩)) (v := .pointer (some ⟨b_s, 0, none⟩)) rfl (fa_blk (o := 0) Fd109_0 Sz22)) ?_
  refine d_q rfl (fun w' H => x_ld (p := .pointer (some ⟨b_s, 0, none⟩)) (v := v_s_bytes) rfl (ldb_sc Sc22 (H.blk (k := 0) rfl) rfl)) ?_
  have hl9z := (hs_s_bytes).len_le
  refine d_q rfl (fun w' H => x_lenS T22.und rfl hs_s_bytes) ?_
  refine d_q rfl (fun w' H => x_cmp (kd := .i64) (a := s_used) (b := (s_bytes.length : Int)) (r := decide ((s_bytes.length : Int) <= s_used)) rfl rfl rfl) ?_
  refine d_nil ?_
  refine W.cond (decide ((s_bytes.length : Int) <= s_used)) rfl (fun c10z => ?_) (fun c10z => ?_)
  ·replace hM := M.e_t hM c10z
   simp only [decide_eq_true_eq, decide_eq_false_iff_not, beq_iff_eq, bne_iff_ne, beq_eq_false_iff_ne, bne_eq_false_iff_eq, ne_eq, Decidable.not_not] at c10z
   refine W.draw (fun W => St w W [cBlk b_s [v_s_bytes, I s_used, I s_mix] 109] R) [(0, true), (1, true), (2, true), (3, true), (4, true), (5, true), (6, true), (7, true), (8, true), (9, true), (10, true), (11, true), (12, true), (13, true), (14, true), (15, true), (16, true), (17, true), (18, true)] mixed (by decide +kernel) rfl ?_
   intro w11z hx_
   replace H : St w w11z [cBlk b_s [v_s_bytes, I s_used, I s_mix] 109] R := H.ext hx_
   clear hx_
   refine ⟨(H.pick [0] (by decide) rfl), ?_⟩
   refine d_q rfl (fun w' H => x_mv (v := I ((s_bytes.getD (Int.toNat (s_used % (s_bytes.length : Int))) 0).toNat : Int)) rfl) ?_
   refine d_q rfl (fun w' H => x_mv (v := .pointer (some ⟨b_s, 0, none⟩)) rfl) ?_
   refine d_q rfl (fun w' H => x_nc (a := ⟨b_s, 0, none⟩) rfl) ?_
   refine d_q rfl (fun w' H => x_fa (a := .pointer (some ⟨b_s, 0, none⟩)) (v := .pointer (some ⟨b_s, 2, none⟩)) rfl (fa_blk (o := 0) Fd109_2 Sz3)) ?_
   refine d_q rfl (fun w' H => x_ld (p := .pointer (some ⟨b_s, 2, none⟩)) (v := I s_mix) rfl (ldb_sc Sc3 (H.blk (k := 0) rfl) rfl)) ?_
   obtain ⟨sd12z, hM⟩ := M.e_grd hM
   simp only [Bool.and_eq_true, decide_eq_true_eq] at sd12z
   refine d_q rfl (fun w' H => x_ari (a := 11) (b := s_mix) (r := 11 * s_mix) rfl rfl rfl (by omega)) ?_
   refine d_q rfl (fun w' H => x_mv (v := .pointer (some ⟨b_s, 0, none⟩)) rfl) ?_
   refine d_q rfl (fun w' H => x_nc (a := ⟨b_s, 0, none⟩) rfl) ?_
   refine d_q rfl (fun w' H => x_fa (a := .pointer (some ⟨b_s, 0, none⟩)) (v := .pointer (some ⟨b_s, 1, none⟩)) rfl (fa_blk (o := 0) Fd109_1 Sz3)) ?_
   refine d_q rfl (fun w' H => x_ld (p := .pointer (some ⟨b_s, 1, none⟩)) (v := I s_used) rfl (ldb_sc Sc3 (H.blk (k := 0) rfl) rfl)) ?_
   refine d_q rfl (fun w' H => x_mv (v := .pointer (some ⟨b_s, 0, none⟩)) rfl) ?_
   refine d_q rfl (fun w' H => x_nc (a := ⟨b_s, 0, none⟩) rfl) ?_
   refine d_q rfl (fun w' H => x_fa (a := .pointer (some ⟨b_s, 0, none⟩)) (v := .pointer (some ⟨b_s, 0, none⟩)) rfl (fa_blk (o := 0) Fd109_0 Sz22)) ?_
   refine d_q rfl (fun w' H => x_ld (p := .pointer (some ⟨b_s, 0, none⟩)) (v := v_s_bytes) rfl (ldb_sc Sc22 (H.blk (k := 0) rfl) rfl)) ?_
   have hl13z := (hs_s_bytes).len_le
   refine d_q rfl (fun w' H => x_lenS T22.und rfl hs_s_bytes) ?_
   obtain ⟨sd14z, hM⟩ := M.e_grd hM
   simp only [Bool.and_eq_true, decide_eq_true_eq] at sd14z
   refine d_q rfl (fun w' H => x_quo (a := s_used) (b := (s_bytes.length : Int)) rfl rfl (by omega)) ?_
   obtain ⟨sd15z, hM⟩ := M.e_grd hM
   simp only [Bool.and_eq_true, decide_eq_true_eq] at sd15z
   refine d_q rfl (fun w' H => x_ari (a := 11 * s_mix) (b := s_used / (s_bytes.length : Int)) (r := (11 * s_mix) + (s_used / (s_bytes.length : Int))) rfl rfl rfl (by omega)) ?_
   obtain ⟨sd16z, hM⟩ := M.e_grd hM
   simp only [Bool.and_eq_true, decide_eq_true_eq] at sd16z
   refine d_q rfl (fun w' H => x_ari (a := ((s_bytes.getD (Int.toNat (s_used % (s_bytes.length : Int))) 0).toNat : Int)) (b := (11 * s_mix) + (s_used / (s_bytes.length : Int))) (r := ((s_bytes.getD (Int.toNat (s_used % (s_bytes.length : Int))) 0).toNat : Int) + ((11 * s_mix) + (s_used / (s_bytes.length : Int)))) rfl rfl rfl (by omega)) ?_
   refine d_q rfl (fun w' H => x_as (v := I (((s_bytes.getD (Int.toNat (s_used % (s_bytes.length : Int))) 0).toNat : Int) + ((11 * s_mix) + (s_used / (s_bytes.length : Int))))) rfl) ?_
   refine d_nil ?_
   refine W.seq ?_
   refine W.region rfl ?_
   refine s_val (x_mv (v := .pointer (some ⟨b_s, 0, none⟩)) rfl) ?_
   refine s_val (x_mv (v := .pointer (some ⟨b_s, 0, none⟩)) rfl) ?_
   refine s_val (x_nc (a := ⟨b_s, 0, none⟩) rfl) ?_
   refine s_val (x_fa (a := .pointer (some ⟨b_s, 0, none⟩)) (v := .pointer (some ⟨b_s, 2, none⟩)) rfl (fa_blk (o := 0) Fd109_2 Sz3)) ?_
   refine s_val (x_ld (p := .pointer (some ⟨b_s, 2, none⟩)) (v := I s_mix) rfl (ldb_sc Sc3 (H.blk (k := 0) rfl) rfl)) ?_
   obtain ⟨sd17z, hM⟩ := M.e_grd hM
   simp only [Bool.and_eq_true, decide_eq_true_eq] at sd17z
   refine s_val (x_ari (a := 5) (b := s_mix) (r := 5 * s_mix) rfl rfl rfl (by omega)) ?_
   refine s_val (x_mv (v := I (((s_bytes.getD (Int.toNat (s_used % (s_bytes.length : Int))) 0).toNat : Int) + ((11 * s_mix) + (s_used / (s_bytes.length : Int))))) rfl) ?_
   obtain ⟨sd18z, hM⟩ := M.e_grd hM
   simp only [Bool.and_eq_true, decide_eq_true_eq] at sd18z
   refine s_val (x_ari (a := 5 * s_mix) (b := ((s_bytes.getD (Int.toNat (s_used % (s_bytes.length : Int))) 0).toNat : Int) + ((11 * s_mix) + (s_used / (s_bytes.length : Int)))) (r := (5 * s_mix) + (((s_bytes.getD (Int.toNat (s_used % (s_bytes.length : Int))) 0).toNat : Int) + ((11 * s_mix) + (s_used / (s_bytes.length : Int))))) rfl rfl rfl (by omega)) ?_
   obtain ⟨sd19z, hM⟩ := M.e_grd hM
   simp only [Bool.and_eq_true, decide_eq_true_eq] at sd19z
   refine s_val (x_ari (a := (5 * s_mix) + (((s_bytes.getD (Int.toNat (s_used % (s_bytes.length : Int))) 0).toNat : Int) + ((11 * s_mix) + (s_used / (s_bytes.length : Int))))) (b := 1) (r := ((5 * s_mix) + (((s_bytes.getD (Int.toNat (s_used % (s_bytes.length : Int))) 0).toNat : Int) + ((11 * s_mix) + (s_used / (s_bytes.length : Int))))) + 1) rfl rfl rfl (by omega)) ?_
   obtain ⟨sd20z, hM⟩ := M.e_grd hM
   simp only [Bool.and_eq_true, decide_eq_true_eq] at sd20z
   refine s_val (x_rem' (a := ((5 * s_mix) + (((s_bytes.getD (Int.toNat (s_used % (s_bytes.length : Int))) 0).toNat : Int) + ((11 * s_mix) + (s_used / (s_bytes.length : Int))))) + 1) (b := 251) rfl rfl (by omega)) ?_
   refine s_val (x_nc (a := ⟨b_s, 0, none⟩) rfl) ?_
   refine s_val (x_fa (a := .pointer (some ⟨b_s, 0, none⟩)) (v := .pointer (some ⟨b_s, 2, none⟩)) rfl (fa_blk (o := 0) Fd109_2 Sz3)) ?_
   refine t_st (k := 0) (b := b_s) (off := 2) (cs := [v_s_bytes, I s_used, I s_mix]) (vs := [I ((((5 * s_mix) + (((s_bytes.getD (Int.toNat (s_used % (s_bytes.length : Int))) 0).toNat : Int) + ((11 * s_mix) + (s_used / (s_bytes.length : Int))))) + 1) % 251)]) (cs' := [v_s_bytes, I s_used, I ((((5 * s_mix) + (((s_bytes.getD (Int.toNat (s_used % (s_bytes.length : Int))) 0).toNat : Int) + ((11 * s_mix) + (s_used / (s_bytes.length : Int))))) + 1) % 251)]) (v := I ((((5 * s_mix) + (((s_bytes.getD (Int.toNat (s_used % (s_bytes.length : Int))) 0).toNat : Int) + ((11 * s_mix) + (s_used / (s_bytes.length : Int))))) + 1) % 251)) (L' := [cBlk b_s [v_s_bytes, I s_used, I ((((5 * s_mix) + (((s_bytes.getD (Int.toNat (s_used % (s_bytes.length : Int))) 0).toNat : Int) + ((11 * s_mix) + (s_used / (s_bytes.length : Int))))) + 1) % 251)] 109]) H rfl rfl rfl Sz3 rfl rfl rfl rfl rfl rfl ?_
   intro w21z H
   refine s_nil ?_
   refine W.seq ?_
   refine W.region rfl ?_
   refine s_val (x_mv (v := .pointer (some ⟨b_s, 0, none⟩)) rfl) ?_
   refine s_val (x_nc (a := ⟨b_s, 0, none⟩) rfl) ?_
   refine s_val (x_fa (a := .pointer (some ⟨b_s, 0, none⟩)) (v := .pointer (some ⟨b_s, 1, none⟩)) rfl (fa_blk (o := 0) Fd109_1 Sz3)) ?_
   refine s_val (x_ld (p := .pointer (some ⟨b_s, 1, none⟩)) (v := I s_used) rfl (ldb_sc Sc3 (H.blk (k := 0) rfl) rfl)) ?_
   obtain ⟨sd22z, hM⟩ := M.e_grd hM
   simp only [Bool.and_eq_true, decide_eq_true_eq] at sd22z
   refine s_val (x_ari (a := s_used) (b := 1) (r := s_used + 1) rfl rfl rfl (by omega)) ?_
   refine s_val (x_nc (a := ⟨b_s, 0, none⟩) rfl) ?_
   refine s_val (x_fa (a := .pointer (some ⟨b_s, 0, none⟩)) (v := .pointer (some ⟨b_s, 1, none⟩)) rfl (fa_blk (o := 0) Fd109_1 Sz3)) ?_
   refine t_st (k := 0) (b := b_s) (off := 1) (cs := [v_s_bytes, I s_used, I ((((5 * s_mix) + (((s_bytes.getD (Int.toNat (s_used % (s_bytes.length : Int))) 0).toNat : Int) + ((11 * s_mix) + (s_used / (s_bytes.length : Int))))) + 1) % 251)]) (vs := [I (s_used + 1)]) (cs' := [v_s_bytes, I (s_used + 1), I ((((5 * s_mix) + (((s_bytes.getD (Int.toNat (s_used % (s_bytes.length : Int))) 0).toNat : Int) + ((11 * s_mix) + (s_used / (s_bytes.length : Int))))) + 1) % 251)]) (v := I (s_used + 1)) (L' := [cBlk b_s [v_s_bytes, I (s_used + 1), I ((((5 * s_mix) + (((s_bytes.getD (Int.toNat (s_used % (s_bytes.length : Int))) 0).toNat : Int) + ((11 * s_mix) + (s_used / (s_bytes.length : Int))))) + 1) % 251)] 109]) H rfl rfl rfl Sz3 rfl rfl rfl rfl rfl rfl ?_
   intro w23z H
   refine s_nil ?_
   refine W.seq ?_
   refine W.seq ?_
   refine W.region rfl ?_
   refine s_val (x_mv (v := I n) rfl) ?_
   refine s_val (x_cmp (kd := .i64) (a := n) (b := 256) (r := decide (256 < n)) rfl rfl rfl) ?_
   refine s_nil ?_
   refine W.cond (decide (256 < n)) rfl (fun c24z => ?_) (fun c24z => ?_)
   ·replace hM := M.e_t hM c24z
    simp only [decide_eq_true_eq, decide_eq_false_iff_not, beq_iff_eq, bne_iff_ne, beq_eq_false_iff_ne, bne_eq_false_iff_eq, ne_eq, Decidable.not_not] at c24z
    refine W.region rfl ?_
    refine s_val (x_mv (v := I (((s_bytes.getD (Int.toNat (s_used % (s_bytes.length : Int))) 0).toNat : Int) + ((11 * s_mix) + (s_used / (s_bytes.length : Int))))) rfl) ?_
    obtain ⟨sd25z, hM⟩ := M.e_grd hM
    simp only [Bool.and_eq_true, decide_eq_true_eq] at sd25z
    refine s_val (x_ari (a := 256) (b := ((s_bytes.getD (Int.toNat (s_used % (s_bytes.length : Int))) 0).toNat : Int) + ((11 * s_mix) + (s_used / (s_bytes.length : Int)))) (r := 256 * (((s_bytes.getD (Int.toNat (s_used % (s_bytes.length : Int))) 0).toNat : Int) + ((11 * s_mix) + (s_used / (s_bytes.length : Int))))) rfl rfl rfl (by omega)) ?_
    refine s_val (x_mv (v := .pointer (some ⟨b_s, 0, none⟩)) rfl) ?_
    refine s_val (x_nc (a := ⟨b_s, 0, none⟩) rfl) ?_
    refine s_val (x_fa (a := .pointer (some ⟨b_s, 0, none⟩)) (v := .pointer (some ⟨b_s, 2, none⟩)) rfl (fa_blk (o := 0) Fd109_2 Sz3)) ?_
    refine s_val (x_ld (p := .pointer (some ⟨b_s, 2, none⟩)) (v := I ((((5 * s_mix) + (((s_bytes.getD (Int.toNat (s_used % (s_bytes.length : Int))) 0).toNat : Int) + ((11 * s_mix) + (s_used / (s_bytes.length : Int))))) + 1) % 251)) rfl (ldb_sc Sc3 (H.blk (k := 0) rfl) rfl)) ?_
    obtain ⟨sd26z, hM⟩ := M.e_grd hM
    simp only [Bool.and_eq_true, decide_eq_true_eq] at sd26z
    refine s_val (x_ari (a := 256 * (((s_bytes.getD (Int.toNat (s_used % (s_bytes.length : Int))) 0).toNat : Int) + ((11 * s_mix) + (s_used / (s_bytes.length : Int))))) (b := (((5 * s_mix) + (((s_bytes.getD (Int.toNat (s_used % (s_bytes.length : Int))) 0).toNat : Int) + ((11 * s_mix) + (s_used / (s_bytes.length : Int))))) + 1) % 251) (r := (256 * (((s_bytes.getD (Int.toNat (s_used % (s_bytes.length : Int))) 0).toNat : Int) + ((11 * s_mix) + (s_used / (s_bytes.length : Int))))) + ((((5 * s_mix) + (((s_bytes.getD (Int.toNat (s_used % (s_bytes.length : Int))) 0).toNat : Int) + ((11 * s_mix) + (s_used / (s_bytes.length : Int))))) + 1) % 251)) rfl rfl rfl (by omega)) ?_
    refine s_val (x_as (v := I ((256 * (((s_bytes.getD (Int.toNat (s_used % (s_bytes.length : Int))) 0).toNat : Int) + ((11 * s_mix) + (s_used / (s_bytes.length : Int))))) + ((((5 * s_mix) + (((s_bytes.getD (Int.toNat (s_used % (s_bytes.length : Int))) 0).toNat : Int) + ((11 * s_mix) + (s_used / (s_bytes.length : Int))))) + 1) % 251))) rfl) ?_
    refine s_nil ?_
    refine W.seq ?_
    refine W.region rfl ?_
    refine s_val (x_mv (v := I ((256 * (((s_bytes.getD (Int.toNat (s_used % (s_bytes.length : Int))) 0).toNat : Int) + ((11 * s_mix) + (s_used / (s_bytes.length : Int))))) + ((((5 * s_mix) + (((s_bytes.getD (Int.toNat (s_used % (s_bytes.length : Int))) 0).toNat : Int) + ((11 * s_mix) + (s_used / (s_bytes.length : Int))))) + 1) % 251))) rfl) ?_
    refine s_val (x_mv (v := I n) rfl) ?_
    obtain ⟨sd27z, hM⟩ := M.e_grd hM
    simp only [Bool.and_eq_true, decide_eq_true_eq] at sd27z
    refine s_val (x_rem' (a := (256 * (((s_bytes.getD (Int.toNat (s_used % (s_bytes.length : Int))) 0).toNat : Int) + ((11 * s_mix) + (s_used / (s_bytes.length : Int))))) + ((((5 * s_mix) + (((s_bytes.getD (Int.toNat (s_used % (s_bytes.length : Int))) 0).toNat : Int) + ((11 * s_mix) + (s_used / (s_bytes.length : Int))))) + 1) % 251)) (b := n) rfl rfl (by omega)) ?_
    refine s_val (x_as (v := I (((256 * (((s_bytes.getD (Int.toNat (s_used % (s_bytes.length : Int))) 0).toNat : Int) + ((11 * s_mix) + (s_used / (s_bytes.length : Int))))) + ((((5 * s_mix) + (((s_bytes.getD (Int.toNat (s_used % (s_bytes.length : Int))) 0).toNat : Int) + ((11 * s_mix) + (s_used / (s_bytes.length : Int))))) + 1) % 251)) % n)) rfl) ?_
    refine s_nil ?_
    refine W.ret ?_
    have hr_ := M.e_pure hM
    exact ⟨_, resE_tmp rfl, ⟨(((256 * (((s_bytes.getD (Int.toNat (s_used % (s_bytes.length : Int))) 0).toNat : Int) + ((11 * s_mix) + (s_used / (s_bytes.length : Int))))) + ((((5 * s_mix) + (((s_bytes.getD (Int.toNat (s_used % (s_bytes.length : Int))) 0).toNat : Int) + ((11 * s_mix) + (s_used / (s_bytes.length : Int))))) + 1) % 251)) % n), (s_used + 1), ((((5 * s_mix) + (((s_bytes.getD (Int.toNat (s_used % (s_bytes.length : Int))) 0).toNat : Int) + ((11 * s_mix) + (s_used / (s_bytes.length : Int))))) + 1) % 251), hr_, rfl, H⟩⟩
   ·replace hM := M.e_f hM c24z
    simp only [decide_eq_true_eq, decide_eq_false_iff_not, beq_iff_eq, bne_iff_ne, beq_eq_false_iff_ne, bne_eq_false_iff_eq, ne_eq, Decidable.not_not] at c24z
    refine W.skip ?_
    refine W.seq ?_
    refine W.region rfl ?_
    refine s_val (x_mv (v := I (((s_bytes.getD (Int.toNat (s_used % (s_bytes.length : Int))) 0).toNat : Int) + ((11 * s_mix) + (s_used / (s_bytes.length : Int))))) rfl) ?_
    refine s_val (x_mv (v := I n) rfl) ?_
    obtain ⟨sd28z, hM⟩ := M.e_grd hM
    simp only [Bool.and_eq_true, decide_eq_true_eq] at sd28z
    refine s_val (x_rem' (a := ((s_bytes.getD (Int.toNat (s_used % (s_bytes.length : Int))) 0).toNat : Int) + ((11 * s_mix) + (s_used / (s_bytes.length : Int)))) (b := n) rfl rfl (by omega)) ?_
    refine s_val (x_as (v := I ((((s_bytes.getD (Int.toNat (s_used % (s_bytes.length : Int))) 0).toNat : Int) + ((11 * s_mix) + (s_used / (s_bytes.length : Int)))) % n)) rfl) ?_
    refine s_nil ?_
    refine W.ret ?_
    have hr_ := M.e_pure hM
    exact ⟨_, resE_tmp rfl, ⟨((((s_bytes.getD (Int.toNat (s_used % (s_bytes.length : Int))) 0).toNat : Int) + ((11 * s_mix) + (s_used / (s_bytes.length : Int)))) % n), (s_used + 1), ((((5 * s_mix) + (((s_bytes.getD (Int.toNat (s_used % (s_bytes.length : Int))) 0).toNat : Int) + ((11 * s_mix) + (s_used / (s_bytes.length : Int))))) + 1) % 251), hr_, rfl, H⟩⟩
  ·replace hM := M.e_f hM c10z
   simp only [decide_eq_true_eq, decide_eq_false_iff_not, beq_iff_eq, bne_iff_ne, beq_eq_false_iff_ne, bne_eq_false_iff_eq, ne_eq, Decidable.not_not] at c10z
   refine W.skip ?_
   refine W.seq ?_
   refine W.region rfl ?_
   refine s_val (x_mv (v := .pointer (some ⟨b_s, 0, none⟩)) rfl) ?_
   refine s_val (x_mv (v := .pointer (some ⟨b_s, 0, none⟩)) rfl) ?_
   refine s_val (x_nc (a := ⟨b_s, 0, none⟩) rfl) ?_
   refine s_val (x_fa (a := .pointer (some ⟨b_s, 0, none⟩)) (v := .pointer (some ⟨b_s, 2, none⟩)) rfl (fa_blk (o := 0) Fd109_2 Sz3)) ?_
   refine s_val (x_ld (p := .pointer (some ⟨b_s, 2, none⟩)) (v := I s_mix) rfl (ldb_sc Sc3 (H.blk (k := 0) rfl) rfl)) ?_
   obtain ⟨sd29z, hM⟩ := M.e_grd hM
   simp only [Bool.and_eq_true, decide_eq_true_eq] at sd29z
   refine s_val (x_ari (a := 5) (b := s_mix) (r := 5 * s_mix) rfl rfl rfl (by omega)) ?_
   refine s_val (x_mv (v := I ((s_bytes.getD (Int.toNat (s_used % (s_bytes.length : Int))) 0).toNat : Int)) rfl) ?_
   obtain ⟨sd30z, hM⟩ := M.e_grd hM
   simp only [Bool.and_eq_true, decide_eq_true_eq] at sd30z
   refine s_val (x_ari (a := 5 * s_mix) (b := ((s_bytes.getD (Int.toNat (s_used % (s_bytes.length : Int))) 0).toNat : Int)) (r := (5 * s_mix) + ((s_bytes.getD (Int.toNat (s_used % (s_bytes.length : Int))) 0).toNat : Int)) rfl rfl rfl (by omega)) ?_
   obtain ⟨sd31z, hM⟩ := M.e_grd hM
   simp only [Bool.and_eq_true, decide_eq_true_eq] at sd31z
   refine s_val (x_ari (a := (5 * s_mix) + ((s_bytes.getD (Int.toNat (s_used % (s_bytes.length : Int))) 0).toNat : Int)) (b := 1) (r := ((5 * s_mix) + ((s_bytes.getD (Int.toNat (s_used % (s_bytes.length : Int))) 0).toNat : Int)) + 1) rfl rfl rfl (by omega)) ?_
   obtain ⟨sd32z, hM⟩ := M.e_grd hM
   simp only [Bool.and_eq_true, decide_eq_true_eq] at sd32z
   refine s_val (x_rem' (a := ((5 * s_mix) + ((s_bytes.getD (Int.toNat (s_used % (s_bytes.length : Int))) 0).toNat : Int)) + 1) (b := 251) rfl rfl (by omega)) ?_
   refine s_val (x_nc (a := ⟨b_s, 0, none⟩) rfl) ?_
   refine s_val (x_fa (a := .pointer (some ⟨b_s, 0, none⟩)) (v := .pointer (some ⟨b_s, 2, none⟩)) rfl (fa_blk (o := 0) Fd109_2 Sz3)) ?_
   refine t_st (k := 0) (b := b_s) (off := 2) (cs := [v_s_bytes, I s_used, I s_mix]) (vs := [I ((((5 * s_mix) + ((s_bytes.getD (Int.toNat (s_used % (s_bytes.length : Int))) 0).toNat : Int)) + 1) % 251)]) (cs' := [v_s_bytes, I s_used, I ((((5 * s_mix) + ((s_bytes.getD (Int.toNat (s_used % (s_bytes.length : Int))) 0).toNat : Int)) + 1) % 251)]) (v := I ((((5 * s_mix) + ((s_bytes.getD (Int.toNat (s_used % (s_bytes.length : Int))) 0).toNat : Int)) + 1) % 251)) (L' := [cBlk b_s [v_s_bytes, I s_used, I ((((5 * s_mix) + ((s_bytes.getD (Int.toNat (s_used % (s_bytes.length : Int))) 0).toNat : Int)) + 1) % 251)] 109]) H rfl rfl rfl Sz3 rfl rfl rfl rfl rfl rfl ?_
   intro w33z H
   refine s_nil ?_
   refine W.seq ?_
   refine W.region rfl ?_
   refine s_val (x_mv (v := .pointer (some ⟨b_s, 0, none⟩)) rfl) ?_
   refine s_val (x_nc (a := ⟨b_s, 0, none⟩) rfl) ?_
   refine s_val (x_fa (a := .pointer (some ⟨b_s, 0, none⟩)) (v := .pointer (some ⟨b_s, 1, none⟩)) rfl (fa_blk (o := 0) Fd109_1 Sz3)) ?_
   refine s_val (x_ld (p := .pointer (some ⟨b_s, 1, none⟩)) (v := I s_used) rfl (ldb_sc Sc3 (H.blk (k := 0) rfl) rfl)) ?_
   obtain ⟨sd34z, hM⟩ := M.e_grd hM
   simp only [Bool.and_eq_true, decide_eq_true_eq] at sd34z
   refine s_val (x_ari (a := s_used) (b := 1) (r := s_used + 1) rfl rfl rfl (by omega)) ?_
   refine s_val (x_nc (a := ⟨b_s, 0, none⟩) rfl) ?_
   refine s_val (x_fa (a := .pointer (some ⟨b_s, 0, none⟩)) (v := .pointer (some ⟨b_s, 1, none⟩)) rfl (fa_blk (o := 0) Fd109_1 Sz3)) ?_
   refine t_st (k := 0) (b := b_s) (off := 1) (cs := [v_s_bytes, I s_used, I ((((5 * s_mix) + ((s_bytes.getD (Int.toNat (s_used % (s_bytes.length : Int))) 0).toNat : Int)) + 1) % 251)]) (vs := [I (s_used + 1)]) (cs' := [v_s_bytes, I (s_used + 1), I ((((5 * s_mix) + ((s_bytes.getD (Int.toNat (s_used % (s_bytes.length : Int))) 0).toNat : Int)) + 1) % 251)]) (v := I (s_used + 1)) (L' := [cBlk b_s [v_s_bytes, I (s_used + 1), I ((((5 * s_mix) + ((s_bytes.getD (Int.toNat (s_used % (s_bytes.length : Int))) 0).toNat : Int)) + 1) % 251)] 109]) H rfl rfl rfl Sz3 rfl rfl rfl rfl rfl rfl ?_
   intro w35z H
   refine s_nil ?_
   refine W.seq ?_
   refine W.seq ?_
   refine W.region rfl ?_
   refine s_val (x_mv (v := I n) rfl) ?_
   refine s_val (x_cmp (kd := .i64) (a := n) (b := 256) (r := decide (256 < n)) rfl rfl rfl) ?_
   refine s_nil ?_
   refine W.cond (decide (256 < n)) rfl (fun c36z => ?_) (fun c36z => ?_)
   ·replace hM := M.e_t hM c36z
    simp only [decide_eq_true_eq, decide_eq_false_iff_not, beq_iff_eq, bne_iff_ne, beq_eq_false_iff_ne, bne_eq_false_iff_eq, ne_eq, Decidable.not_not] at c36z
    refine W.region rfl ?_
    refine s_val (x_mv (v := I ((s_bytes.getD (Int.toNat (s_used % (s_bytes.length : Int))) 0).toNat : Int)) rfl) ?_
    obtain ⟨sd37z, hM⟩ := M.e_grd hM
    simp only [Bool.and_eq_true, decide_eq_true_eq] at sd37z
    refine s_val (x_ari (a := 256) (b := ((s_bytes.getD (Int.toNat (s_used % (s_bytes.length : Int))) 0).toNat : Int)) (r := 256 * ((s_bytes.getD (Int.toNat (s_used % (s_bytes.length : Int))) 0).toNat : Int)) rfl rfl rfl (by omega)) ?_
    refine s_val (x_mv (v := .pointer (some ⟨b_s, 0, none⟩)) rfl) ?_
    refine s_val (x_nc (a := ⟨b_s, 0, none⟩) rfl) ?_
    refine s_val (x_fa (a := .pointer (some ⟨b_s, 0, none⟩)) (v := .pointer (some ⟨b_s, 2, none⟩)) rfl (fa_blk (o := 0) Fd109_2 Sz3)) ?_
    refine s_val (x_ld (p := .pointer (some ⟨b_s, 2, none⟩)) (v := I ((((5 * s_mix) + ((s_bytes.getD (Int.toNat (s_used % (s_bytes.length : Int))) 0).toNat : Int)) + 1) % 251)) rfl (ldb_sc Sc3 (H.blk (k := 0) rfl) rfl)) ?_
    obtain ⟨sd38z, hM⟩ := M.e_grd hM
    simp only [Bool.and_eq_true, decide_eq_true_eq] at sd38z
    refine s_val (x_ari (a := 256 * ((s_bytes.getD (Int.toNat (s_used % (s_bytes.length : Int))) 0).toNat : Int)) (b := (((5 * s_mix) + ((s_bytes.getD (Int.toNat (s_used % (s_bytes.length : Int))) 0).toNat : Int)) + 1) % 251) (r := (256 * ((s_bytes.getD (Int.toNat (s_used % (s_bytes.length : Int))) 0).toNat : Int)) + ((((5 * s_mix) + ((s_bytes.getD (Int.toNat (s_used % (s_bytes.length : Int))) 0).toNat : Int)) + 1) % 251)) rfl rfl rfl (by omega)) ?_
    refine s_val (x_as (v := I ((256 * ((s_bytes.getD (Int.toNat (s_used % (s_bytes.length : Int))) 0).toNat : Int)) + ((((5 * s_mix) + ((s_bytes.getD (Int.toNat (s_used % (s_bytes.length : Int))) 0).toNat : Int)) + 1) % 251))) rfl) ?_
    refine s_nil ?_
    refine W.seq ?_
    refine W.region rfl ?_
    refine s_val (x_mv (v := I ((256 * ((s_bytes.getD (Int.toNat (s_used % (s_bytes.length : Int))) 0).toNat : Int)) + ((((5 * s_mix) + ((s_bytes.getD (Int.toNat (s_used % (s_bytes.length : Int))) 0).toNat : Int)) + 1) % 251))) rfl) ?_
    refine s_val (x_mv (v := I n) rfl) ?_
    obtain ⟨sd39z, hM⟩ := M.e_grd hM
    simp only [Bool.and_eq_true, decide_eq_true_eq] at sd39z
    refine s_val (x_rem' (a := (256 * ((s_bytes.getD (Int.toNat (s_used % (s_bytes.length : Int))) 0).toNat : Int)) + ((((5 * s_mix) + ((s_bytes.getD (Int.toNat (s_used % (s_bytes.length : Int))) 0).toNat : Int)) + 1) % 251)) (b := n) rfl rfl (by omega)) ?_
    refine s_val (x_as (v := I (((256 * ((s_bytes.getD (Int.toNat (s_used % (s_bytes.length : Int))) 0).toNat : Int)) + ((((5 * s_mix) + ((s_bytes.getD (Int.toNat (s_used % (s_bytes.length : Int))) 0).toNat : Int)) + 1) % 251)) % n)) rfl) ?_
    refine s_nil ?_
    refine W.ret ?_
    have hr_ := M.e_pure hM
    exact ⟨_, resE_tmp rfl, ⟨(((256 * ((s_bytes.getD (Int.toNat (s_used % (s_bytes.length : Int))) 0).toNat : Int)) + ((((5 * s_mix) + ((s_bytes.getD (Int.toNat (s_used % (s_bytes.length : Int))) 0).toNat : Int)) + 1) % 251)) % n), (s_used + 1), ((((5 * s_mix) + ((s_bytes.getD (Int.toNat (s_used % (s_bytes.length : Int))) 0).toNat : Int)) + 1) % 251), hr_, rfl, H⟩⟩
   ·replace hM := M.e_f hM c36z
    simp only [decide_eq_true_eq, decide_eq_false_iff_not, beq_iff_eq, bne_iff_ne, beq_eq_false_iff_ne, bne_eq_false_iff_eq, ne_eq, Decidable.not_not] at c36z
    refine W.skip ?_
    refine W.seq ?_
    refine W.region rfl ?_
    refine s_val (x_mv (v := I ((s_bytes.getD (Int.toNat (s_used % (s_bytes.length : Int))) 0).toNat : Int)) rfl) ?_
    refine s_val (x_mv (v := I n) rfl) ?_
    obtain ⟨sd40z, hM⟩ := M.e_grd hM
    simp only [Bool.and_eq_true, decide_eq_true_eq] at sd40z
    refine s_val (x_rem' (a := ((s_bytes.getD (Int.toNat (s_used % (s_bytes.length : Int))) 0).toNat : Int)) (b := n) rfl rfl (by omega)) ?_
    refine s_val (x_as (v := I (((s_bytes.getD (Int.toNat (s_used % (s_bytes.length : Int))) 0).toNat : Int) % n)) rfl) ?_
    refine s_nil ?_
    refine W.ret ?_
    have hr_ := M.e_pure hM
    exact ⟨_, resE_tmp rfl, ⟨(((s_bytes.getD (Int.toNat (s_used % (s_bytes.length : Int))) 0).toNat : Int) % n), (s_used + 1), ((((5 * s_mix) + ((s_bytes.getD (Int.toNat (s_used % (s_bytes.length : Int))) 0).toNat : Int)) + 1) % 251), hr_, rfl, H⟩⟩

def m_nilometerkit_Stream_Within (s_bytes : List UInt8) (s_used : Int) (s_mix : Int) (lo : Int) (hi : Int) : M (Int × Int × Int) :=
  M.grd (decide ((-9223372036854775808 : Int) <= (hi - lo)) && decide ((hi - lo) <= (9223372036854775807 : Int))) <|
  M.grd (decide ((-9223372036854775808 : Int) <= ((hi - lo) + 1)) && decide (((hi - lo) + 1) <= (9223372036854775807 : Int))) <|
  M.bind (m_nilometerkit_Stream_Next s_bytes s_used s_mix ((hi - lo) + 1)) fun (r2, q1, q2) =>
  M.grd (decide ((-9223372036854775808 : Int) <= (lo + r2)) && decide ((lo + r2) <= (9223372036854775807 : Int))) <|
  M.pure ((lo + r2), q1, q2)
theorem nilometerkit_Stream_Within_ok {R : List Chunk} {b_s : Nat} {C_s_bytes : Cells} {v_s_bytes : Value} (s_bytes : List UInt8) (s_used : Int) (s_mix : Int) (lo : Int) (hi : Int) (hC_s_bytes : Reads R C_s_bytes) (hs_s_bytes : Sl C_s_bytes v_s_bytes s_bytes) {r : (Int × Int × Int)} (hM : (m_nilometerkit_Stream_Within s_bytes s_used s_mix lo hi).Ends r) (w : World) (H : St w w [cBlk b_s [v_s_bytes, I s_used, I s_mix] 109] R) : Ret Try.prog 19 #[.pointer (some ⟨b_s, 0, none⟩), I lo, I hi] w fun v w' => ∃ (y0 : Int) (y1 : Int) (y2 : Int), (y0, y1, y2) = r /\ v = I y0 /\ St w w' [cBlk b_s [v_s_bytes, I y1, I y2] 109] R := by
 refine ret_of_W Try.func19 rfl rfl rfl ?_
 refine W.seq ?_
 refine W.region rfl ?_
 refine s_val (x_as (v := I 0) rfl) ?_
 refine s_nil ?_
 refine W.seq ?_
 refine W.region rfl ?_
 refine s_val (x_mv (v := I lo) rfl) ?_
 refine s_val (x_mv (v := .pointer (some ⟨b_s, 0, none⟩)) rfl) ?_
 refine s_val (x_mv (v := I hi) rfl) ?_
 refine s_val (x_mv (v := I lo) rfl) ?_
 obtain ⟨sd1z, hM⟩ := M.e_grd hM
 simp only [Bool.and_eq_true, decide_eq_true_eq] at sd1z
 refine s_val (x_ari (a := hi) (b := lo) (r := hi - lo) rfl rfl rfl (by omega)) ?_
 obtain ⟨sd2z, hM⟩ := M.e_grd hM
 simp only [Bool.and_eq_true, decide_eq_true_eq] at sd2z
 refine s_val (x_ari (a := hi - lo) (b := 1) (r := (hi - lo) + 1) rfl rfl rfl (by omega)) ?_
 obtain ⟨r4z, hx3z, hM⟩ := M.e_bind hM
 refine s_call cf14 [.pointer (some ⟨b_s, 0, none⟩), I ((hi - lo) + 1)] rfl (nilometerkit_Stream_Next_ok s_bytes s_used s_mix ((hi - lo) + 1) (hC_s_bytes.app _) hs_s_bytes hx3z _ (St.give (T := []) H rfl)) ?_
 rintro vq w5z ⟨r2, q1, q2, hr6z, hvq, H2_⟩
 subst hr6z
 subst vq
 try dsimp only at hM
 replace H : St w w5z [cBlk b_s [v_s_bytes, I q1, I q2] 109] R := H.back H2_ rfl
 clear H2_
 obtain ⟨sd7z, hM⟩ := M.e_grd hM
 simp only [Bool.and_eq_true, decide_eq_true_eq] at sd7z
 refine s_val (x_ari (a := lo) (b := r2) (r := lo + r2) rfl rfl rfl (by omega)) ?_
 refine s_val (x_as (v := I (lo + r2)) rfl) ?_
 refine s_nil ?_
 refine W.ret ?_
 have hr_ := M.e_pure hM
 exact ⟨_, resE_tmp rfl, ⟨(lo + r2), q1, q2, hr_, rfl, H⟩⟩

def m_nilometerlaw01_Levelled (s_bytes : List UInt8) (s_used : Int) (s_mix : Int) (heights : List Int) (a : Int) (b : Int) (day : Int) : M (Int × Int × Int × Int × Int × Int × Int) :=
  M.bind (m_nilometerkit_Stream_Next s_bytes s_used s_mix 9) fun (r2, q1, q2) =>
  M.grd (decide ((0 : Int) <= b) && decide (b < (heights.length : Int))) <|
  M.grd (decide ((0 : Int) <= a) && decide (a < (heights.length : Int))) <|
  M.grd (decide ((-9223372036854775808 : Int) <= ((heights.getD (Int.toNat b) 0) - (heights.getD (Int.toNat a) 0))) && decide (((heights.getD (Int.toNat b) 0) - (heights.getD (Int.toNat a) 0)) <= (9223372036854775807 : Int))) <|
  M.grd (decide (-9223372036854775807 <= r2) && decide (r2 <= 9223372036854775807)) <|
  M.bind (m_nilometerkit_Stream_Within s_bytes q1 q2 (-r2) r2) fun (r3, q12, q22) =>
  M.grd (decide ((-9223372036854775808 : Int) <= (((heights.getD (Int.toNat b) 0) - (heights.getD (Int.toNat a) 0)) + r3)) && decide ((((heights.getD (Int.toNat b) 0) - (heights.getD (Int.toNat a) 0)) + r3) <= (9223372036854775807 : Int))) <|
  M.pure (a, b, day, (((heights.getD (Int.toNat b) 0) - (heights.getD (Int.toNat a) 0)) + r3), r2, q12, q22)
theorem nilometerlaw01_Levelled_ok {R : List Chunk} {b_s : Nat} {C_s_bytes : Cells} {v_s_bytes : Value} {C_heights : Cells} {v_heights : Value} (s_bytes : List UInt8) (s_used : Int) (s_mix : Int) (heights : List Int) (a : Int) (b : Int) (day : Int) (hC_s_bytes : Reads R C_s_bytes) (hs_s_bytes : Sl C_s_bytes v_s_bytes s_bytes) (hC_heights : Reads R C_heights) (hs_heights : Sl C_heights v_heights heights) {r : (Int × Int × Int × Int × Int × Int × Int)} (hM : (m_nilometerlaw01_Levelled s_bytes s_used s_mix heights a b day).Ends r) (w : World) (H : St w w [cBlk b_s [v_s_bytes, I s_used, I s_mix] 109] R) : Ret Try.prog 16 #[.pointer (some ⟨b_s, 0, none⟩), v_heights, I a, I b, I day] w fun v w' => ∃ (y0 : Int) (y1 : Int) (y2 : Int) (y3 : Int) (y4 : Int) (y5 : Int) (y6 : Int), (y0, y1, y2, y3, y4, y5, y6) = r /\ v = .agg #[I y0, I y1, I y2, I y3, I y4] /\ St w w' [cBlk b_s [v_s_bytes, I y5, I y6] 109] R := by
 refine ret_of_W Try.func16 rfl rfl rfl ?_
 refine W.seq ?_
 refine W.region rfl ?_
 refine t_alloc (cs := [I 0, I 0, I 0, I 0, I 0]) H Al34 rfl ?_
 intro b_1 w1z H
 refine s_nil ?_
 refine W.seq ?_
 refine W.region rfl ?_
 refine s_val (x_mv (v := I a) rfl) ?_
 refine s_val (x_mv (v := I b) rfl) ?_
 refine s_val (x_mv (v := I day) rfl) ?_
 refine s_val (x_mv (v := .pointer (some ⟨b_s, 0, none⟩)) rfl) ?_
 obtain ⟨r3z, hx2z, hM⟩ := M.e_bind hM
 refine s_call cf14 [.pointer (some ⟨b_s, 0, none⟩), I 9] rfl (nilometerkit_Stream_Next_ok s_bytes s_used s_mix 9 (hC_s_bytes.app _) hs_s_bytes hx2z _ (St.give (L := [cBlk b_s [v_s_bytes, I s_used, I s_mix] 109, cBlk b_1 [I 0, I 0, I 0, I 0, I 0] 34]) (A := [cBlk b_s [v_s_bytes, I s_used, I s_mix] 109]) (T := [cBlk b_1 [I 0, I 0, I 0, I 0, I 0] 34]) (H.pick [1, 0] (by decide) rfl) rfl)) ?_
 rintro vq w4z ⟨r2, q1, q2, hr5z, hvq, H2_⟩
 subst hr5z
 subst vq
 try dsimp only at hM
 replace H : St w w4z [cBlk b_s [v_s_bytes, I q1, I q2] 109, cBlk b_1 [I 0, I 0, I 0, I 0, I 0] 34] R := H.pick [1, 0] (by decide) rfl |>.back H2_ rfl
 clear H2_
 refine s_val (x_bld (ps := [(0, I a), (1, I b), (2, I day), (4, I r2)]) (zs := [I 0, I 0, I 0, I 0, I 0]) (L' := [I a, I b, I day, I 0, I r2]) rfl Try.underlying34 Al34 rfl (Bd34 Try.underlying34) (.cons (cs := [I a]) rfl rfl rfl rfl rfl <| .cons (cs := [I b]) rfl rfl rfl rfl rfl <| .cons (cs := [I day]) rfl rfl rfl rfl rfl <| .cons (cs := [I r2]) rfl rfl rfl rfl rfl <| .nil)) ?_
 refine t_alloc (cs := [I 0, I 0, I 0, I 0, I 0]) H Al34 rfl ?_
 intro b_2 w6z H
 refine t_st (k := 0) (b := b_2) (off := 0) (cs := [I 0, I 0, I 0, I 0, I 0]) (vs := [I a, I b, I day, I 0, I r2]) (cs' := [I a, I b, I day, I 0, I r2]) (v := .agg #[I a, I b, I day, I 0, I r2]) (L' := [cBlk b_2 [I a, I b, I day, I 0, I r2] 34, cBlk b_s [v_s_bytes, I q1, I q2] 109, cBlk b_1 [I 0, I 0, I 0, I 0, I 0] 34]) H rfl rfl rfl Sz34 rfl rfl rfl rfl rfl rfl ?_
 intro w7z H
 refine s_nil ?_
 refine W.seq ?_
 refine W.drawT (fun W => St w W [cBlk b_1 [I 0, I 0, I 0, I 0, I 0] 34] R) (.q 0 (.q 1 (.q 2 (.q 3 (.q 4 (.q 5 (.q 6 (.q 7 (.q 8 (.q 9 (.q 10 (.q 13 (.l2 11 (.q 12 (.l 14 (.l 15 (.q 16 (.q 17 (.l 18 .nil)))))) 14 (.l 11 (.q 12 (.l 15 (.q 16 (.q 17 (.l 18 .nil))))))))))))))))))) mixed (by decide +kernel) rfl ?_
 intro w8z hx_
 replace H : St w w8z [cBlk b_2 [I a, I b, I day, I 0, I r2] 34, cBlk b_s [v_s_bytes, I q1, I q2] 109, cBlk b_1 [I 0, I 0, I 0, I 0, I 0] 34] R := H.ext hx_
 clear hx_
 refine ⟨(H.pick [2] (by decide) rfl), ?_⟩
 refine t_q rfl (fun w' H => x_mv (v := v_heights) rfl) ?_
 refine t_q rfl (fun w' H => x_mv (v := I b) rfl) ?_
 obtain ⟨sd9z, hM⟩ := M.e_grd hM
 simp only [Bool.and_eq_true, decide_eq_true_eq] at sd9z
 refine t_q rfl (fun w' H => x_ix (a := v_heights) (b := I b) (v := vat v_heights 1 (Int.toNat b)) rfl rfl (Sl.ix (α := Int) T26.und T26.size hs_heights (by omega) (by omega))) ?_
 refine t_q rfl (fun w' H => x_ld (p := vat v_heights 1 (Int.toNat b)) (v := I (heights.getD (Int.toNat b) 0)) rfl (ld_sc Sc3 (At.mono (Int_at hs_heights (i := b) (by omega) (by omega)) (hC_heights.at H)))) ?_
 refine t_q rfl (fun w' H => x_mv (v := v_heights) rfl) ?_
 refine t_q rfl (fun w' H => x_mv (v := I a) rfl) ?_
 obtain ⟨sd10z, hM⟩ := M.e_grd hM
 simp only [Bool.and_eq_true, decide_eq_true_eq] at sd10z
 refine t_q rfl (fun w' H => x_ix (a := v_heights) (b := I a) (v := vat v_heights 1 (Int.toNat a)) rfl rfl (Sl.ix (α := Int) T26.und T26.size hs_heights (by omega) (by omega))) ?_
 refine t_q rfl (fun w' H => x_ld (p := vat v_heights 1 (Int.toNat a)) (v := I (heights.getD (Int.toNat a) 0)) rfl (ld_sc Sc3 (At.mono (Int_at hs_heights (i := a) (by omega) (by omega)) (hC_heights.at H)))) ?_
 obtain ⟨sd11z, hM⟩ := M.e_grd hM
 simp only [Bool.and_eq_true, decide_eq_true_eq] at sd11z
 refine t_q rfl (fun w' H => x_ari (a := heights.getD (Int.toNat b) 0) (b := heights.getD (Int.toNat a) 0) (r := (heights.getD (Int.toNat b) 0) - (heights.getD (Int.toNat a) 0)) rfl rfl rfl (by omega)) ?_
 refine t_q rfl (fun w' H => x_mv (v := .pointer (some ⟨b_s, 0, none⟩)) rfl) ?_
 refine t_q rfl (fun w' H => x_fa (a := .pointer (some ⟨b_2, 0, none⟩)) (v := .pointer (some ⟨b_2, 4, none⟩)) rfl (fa_blk (o := 0) Fd34_4 Sz3)) ?_
 refine t_q rfl (fun w' H => x_fa (a := .pointer (some ⟨b_2, 0, none⟩)) (v := .pointer (some ⟨b_2, 4, none⟩)) rfl (fa_blk (o := 0) Fd34_4 Sz3)) ?_
 refine t_l2 rfl rfl ?_ ?_
 ·skip
  refine s_val (x_ld (p := .pointer (some ⟨b_2, 4, none⟩)) (v := I r2) rfl (ldb_sc Sc3 (H.blk (k := 0) rfl) rfl)) ?_
  refine s_nil ⟨(H.pick [2] (by decide) rfl), ?_⟩
  obtain ⟨sd19z, hM⟩ := M.e_grd hM
  simp only [Bool.and_eq_true, decide_eq_true_eq] at sd19z
  refine t_q rfl (fun w' H => x_neg (a := r2) rfl (by omega)) ?_
  refine t_l rfl ?_
  refine s_val (x_ld (p := .pointer (some ⟨b_2, 4, none⟩)) (v := I r2) rfl (ldb_sc Sc3 (H.blk (k := 0) rfl) rfl)) ?_
  refine s_nil ⟨(H.pick [2] (by decide) rfl), ?_⟩
  refine t_l rfl ?_
  obtain ⟨r21z, hx20z, hM⟩ := M.e_bind hM
  refine s_call cf19 [.pointer (some ⟨b_s, 0, none⟩), I (-r2), I r2] rfl (nilometerkit_Stream_Within_ok s_bytes q1 q2 (-r2) r2 (hC_s_bytes.app _) hs_s_bytes hx20z _ (St.give (L := [cBlk b_s [v_s_bytes, I q1, I q2] 109, cBlk b_2 [I a, I b, I day, I 0, I r2] 34, cBlk b_1 [I 0, I 0, I 0, I 0, I 0] 34]) (A := [cBlk b_s [v_s_bytes, I q1, I q2] 109]) (T := [cBlk b_2 [I a, I b, I day, I 0, I r2] 34, cBlk b_1 [I 0, I 0, I 0, I 0, I 0] 34]) (H.pick [1, 0, 2] (by decide) rfl) rfl)) ?_
  rintro vq w22z ⟨r3, q12, q22, hr23z, hvq, H2_⟩
  subst hr23z
  subst vq
  try dsimp only at hM
  replace H : St w w22z [cBlk b_s [v_s_bytes, I q12, I q22] 109, cBlk b_2 [I a, I b, I day, I 0, I r2] 34, cBlk b_1 [I 0, I 0, I 0, I 0, I 0] 34] R := H.pick [1, 0, 2] (by decide) rfl |>.back H2_ rfl
  clear H2_
  refine s_nil ⟨(H.pick [2] (by decide) rfl), ?_⟩
  obtain ⟨sd24z, hM⟩ := M.e_grd hM
  simp only [Bool.and_eq_true, decide_eq_true_eq] at sd24z
  refine t_q rfl (fun w' H => x_ari (a := (heights.getD (Int.toNat b) 0) - (heights.getD (Int.toNat a) 0)) (b := r3) (r := ((heights.getD (Int.toNat b) 0) - (heights.getD (Int.toNat a) 0)) + r3) rfl rfl rfl (by omega)) ?_
  refine t_q rfl (fun w' H => x_fa (a := .pointer (some ⟨b_2, 0, none⟩)) (v := .pointer (some ⟨b_2, 3, none⟩)) rfl (fa_blk (o := 0) Fd34_3 Sz3)) ?_
  refine t_l rfl ?_
  refine t_st (k := 1) (b := b_2) (off := 3) (cs := [I a, I b, I day, I 0, I r2]) (vs := [I (((heights.getD (Int.toNat b) 0) - (heights.getD (Int.toNat a) 0)) + r3)]) (cs' := [I a, I b, I day, I (((heights.getD (Int.toNat b) 0) - (heights.getD (Int.toNat a) 0)) + r3), I r2]) (v := I (((heights.getD (Int.toNat b) 0) - (heights.getD (Int.toNat a) 0)) + r3)) (L' := [cBlk b_s [v_s_bytes, I q12, I q22] 109, cBlk b_2 [I a, I b, I day, I (((heights.getD (Int.toNat b) 0) - (heights.getD (Int.toNat a) 0)) + r3), I r2] 34, cBlk b_1 [I 0, I 0, I 0, I 0, I 0] 34]) H rfl rfl rfl Sz3 rfl rfl rfl rfl rfl rfl ?_
  intro w25z H
  refine s_nil ⟨(H.pick [2] (by decide) rfl), ?_⟩
  refine t_nil ?_
  refine W.seq ?_
  refine W.region rfl ?_
  refine s_val (x_ld (p := .pointer (some ⟨b_2, 0, none⟩)) (v := .agg #[I a, I b, I day, I (((heights.getD (Int.toNat b) 0) - (heights.getD (Int.toNat a) 0)) + r3), I r2]) rfl (ldb_ag (ds := [I a, I b, I day, I (((heights.getD (Int.toNat b) 0) - (heights.getD (Int.toNat a) 0)) + r3), I r2]) Ag34 Sz34 (H.blk (k := 1) rfl) rfl rfl)) ?_
  refine t_st (k := 2) (b := b_1) (off := 0) (cs := [I 0, I 0, I 0, I 0, I 0]) (vs := [I a, I b, I day, I (((heights.getD (Int.toNat b) 0) - (heights.getD (Int.toNat a) 0)) + r3), I r2]) (cs' := [I a, I b, I day, I (((heights.getD (Int.toNat b) 0) - (heights.getD (Int.toNat a) 0)) + r3), I r2]) (v := .agg #[I a, I b, I day, I (((heights.getD (Int.toNat b) 0) - (heights.getD (Int.toNat a) 0)) + r3), I r2]) (L' := [cBlk b_s [v_s_bytes, I q12, I q22] 109, cBlk b_2 [I a, I b, I day, I (((heights.getD (Int.toNat b) 0) - (heights.getD (Int.toNat a) 0)) + r3), I r2] 34, cBlk b_1 [I a, I b, I day, I (((heights.getD (Int.toNat b) 0) - (heights.getD (Int.toNat a) 0)) + r3), I r2] 34]) H rfl rfl rfl Sz34 rfl rfl rfl rfl rfl rfl ?_
  intro w26z H
  refine s_nil ?_
  refine W.ret ?_
  have hb27z := (H.blk (k := 2) rfl)
  have hr_ := M.e_pure hM
  exact ⟨_, (resE_of1 (v := .agg #[I a, I b, I day, I (((heights.getD (Int.toNat b) 0) - (heights.getD (Int.toNat a) 0)) + r3), I r2]) rfl (.cell (v := .agg #[I a, I b, I day, I (((heights.getD (Int.toNat b) 0) - (heights.getD (Int.toNat a) 0)) + r3), I r2]) rfl (run_loadVar_ag (ds := [I a, I b, I day, I (((heights.getD (Int.toNat b) 0) - (heights.getD (Int.toNat a) 0)) + r3), I r2]) Ag34 Sz34 hb27z rfl rfl) <| .nil)), ⟨a, b, day, (((heights.getD (Int.toNat b) 0) - (heights.getD (Int.toNat a) 0)) + r3), r2, q12, q22, hr_, rfl, (H.pick [0] (by decide) rfl)⟩⟩
 ·skip
  refine s_val (x_ld (p := .pointer (some ⟨b_2, 4, none⟩)) (v := I r2) rfl (ldb_sc Sc3 (H.blk (k := 0) rfl) rfl)) ?_
  refine s_nil ⟨(H.pick [2] (by decide) rfl), ?_⟩
  refine t_l rfl ?_
  refine s_val (x_ld (p := .pointer (some ⟨b_2, 4, none⟩)) (v := I r2) rfl (ldb_sc Sc3 (H.blk (k := 0) rfl) rfl)) ?_
  refine s_nil ⟨(H.pick [2] (by decide) rfl), ?_⟩
  obtain ⟨sd28z, hM⟩ := M.e_grd hM
  simp only [Bool.and_eq_true, decide_eq_true_eq] at sd28z
  refine t_q rfl (fun w' H => x_neg (a := r2) rfl (by omega)) ?_
  refine t_l rfl ?_
  obtain ⟨r30z, hx29z, hM⟩ := M.e_bind hM
  refine s_call cf19 [.pointer (some ⟨b_s, 0, none⟩), I (-r2), I r2] rfl (nilometerkit_Stream_Within_ok s_bytes q1 q2 (-r2) r2 (hC_s_bytes.app _) hs_s_bytes hx29z _ (St.give (L := [cBlk b_s [v_s_bytes, I q1, I q2] 109, cBlk b_2 [I a, I b, I day, I 0, I r2] 34, cBlk b_1 [I 0, I 0, I 0, I 0, I 0] 34]) (A := [cBlk b_s [v_s_bytes, I q1, I q2] 109]) (T := [cBlk b_2 [I a, I b, I day, I 0, I r2] 34, cBlk b_1 [I 0, I 0, I 0, I 0, I 0] 34]) (H.pick [1, 0, 2] (by decide) rfl) rfl)) ?_
  rintro vq w31z ⟨r3, q12, q22, hr32z, hvq, H2_⟩
  subst hr32z
  subst vq
  try dsimp only at hM
  replace H : St w w31z [cBlk b_s [v_s_bytes, I q12, I q22] 109, cBlk b_2 [I a, I b, I day, I 0, I r2] 34, cBlk b_1 [I 0, I 0, I 0, I 0, I 0] 34] R := H.pick [1, 0, 2] (by decide) rfl |>.back H2_ rfl
  clear H2_
  refine s_nil ⟨(H.pick [2] (by decide) rfl), ?_⟩
  obtain ⟨sd33z, hM⟩ := M.e_grd hM
  simp only [Bool.and_eq_true, decide_eq_true_eq] at sd33z
  refine t_q rfl (fun w' H => x_ari (a := (heights.getD (Int.toNat b) 0) - (heights.getD (Int.toNat a) 0)) (b := r3) (r := ((heights.getD (Int.toNat b) 0) - (heights.getD (Int.toNat a) 0)) + r3) rfl rfl rfl (by omega)) ?_
  refine t_q rfl (fun w' H => x_fa (a := .pointer (some ⟨b_2, 0, none⟩)) (v := .pointer (some ⟨b_2, 3, none⟩)) rfl (fa_blk (o := 0) Fd34_3 Sz3)) ?_
  refine t_l rfl ?_
  refine t_st (k := 1) (b := b_2) (off := 3) (cs := [I a, I b, I day, I 0, I r2]) (vs := [I (((heights.getD (Int.toNat b) 0) - (heights.getD (Int.toNat a) 0)) + r3)]) (cs' := [I a, I b, I day, I (((heights.getD (Int.toNat b) 0) - (heights.getD (Int.toNat a) 0)) + r3), I r2]) (v := I (((heights.getD (Int.toNat b) 0) - (heights.getD (Int.toNat a) 0)) + r3)) (L' := [cBlk b_s [v_s_bytes, I q12, I q22] 109, cBlk b_2 [I a, I b, I day, I (((heights.getD (Int.toNat b) 0) - (heights.getD (Int.toNat a) 0)) + r3), I r2] 34, cBlk b_1 [I 0, I 0, I 0, I 0, I 0] 34]) H rfl rfl rfl Sz3 rfl rfl rfl rfl rfl rfl ?_
  intro w34z H
  refine s_nil ⟨(H.pick [2] (by decide) rfl), ?_⟩
  refine t_nil ?_
  refine W.seq ?_
  refine W.region rfl ?_
  refine s_val (x_ld (p := .pointer (some ⟨b_2, 0, none⟩)) (v := .agg #[I a, I b, I day, I (((heights.getD (Int.toNat b) 0) - (heights.getD (Int.toNat a) 0)) + r3), I r2]) rfl (ldb_ag (ds := [I a, I b, I day, I (((heights.getD (Int.toNat b) 0) - (heights.getD (Int.toNat a) 0)) + r3), I r2]) Ag34 Sz34 (H.blk (k := 1) rfl) rfl rfl)) ?_
  refine t_st (k := 2) (b := b_1) (off := 0) (cs := [I 0, I 0, I 0, I 0, I 0]) (vs := [I a, I b, I day, I (((heights.getD (Int.toNat b) 0) - (heights.getD (Int.toNat a) 0)) + r3), I r2]) (cs' := [I a, I b, I day, I (((heights.getD (Int.toNat b) 0) - (heights.getD (Int.toNat a) 0)) + r3), I r2]) (v := .agg #[I a, I b, I day, I (((heights.getD (Int.toNat b) 0) - (heights.getD (Int.toNat a) 0)) + r3), I r2]) (L' := [cBlk b_s [v_s_bytes, I q12, I q22] 109, cBlk b_2 [I a, I b, I day, I (((heights.getD (Int.toNat b) 0) - (heights.getD (Int.toNat a) 0)) + r3), I r2] 34, cBlk b_1 [I a, I b, I day, I (((heights.getD (Int.toNat b) 0) - (heights.getD (Int.toNat a) 0)) + r3), I r2] 34]) H rfl rfl rfl Sz34 rfl rfl rfl rfl rfl rfl ?_
  intro w35z H
  refine s_nil ?_
  refine W.ret ?_
  have hb36z := (H.blk (k := 2) rfl)
  have hr_ := M.e_pure hM
  exact ⟨_, (resE_of1 (v := .agg #[I a, I b, I day, I (((heights.getD (Int.toNat b) 0) - (heights.getD (Int.toNat a) 0)) + r3), I r2]) rfl (.cell (v := .agg #[I a, I b, I day, I (((heights.getD (Int.toNat b) 0) - (heights.getD (Int.toNat a) 0)) + r3), I r2]) rfl (run_loadVar_ag (ds := [I a, I b, I day, I (((heights.getD (Int.toNat b) 0) - (heights.getD (Int.toNat a) 0)) + r3), I r2]) Ag34 Sz34 hb36z rfl rfl) <| .nil)), ⟨a, b, day, (((heights.getD (Int.toNat b) 0) - (heights.getD (Int.toNat a) 0)) + r3), r2, q12, q22, hr_, rfl, (H.pick [0] (by decide) rfl)⟩⟩

def m_nilometerlaw01_Made_b0 (s_bytes : List UInt8) (r2 : Int) : (Int × Int × (List Int)) -> M ((Int × Int × (List Int)) ⊕ (Int × Int × (List Int) × (List Int))) := fun (s2, s3, l) =>
  bif decide ((l.length : Int) < r2) then (
  M.bind (m_nilometerkit_Stream_Within s_bytes s2 s3 (-300) 300) fun (r3, q12, q22) =>
  M.grd (decide ((l.length + ([(r3 : Int)]).length) * 8 <= 140737488355328)) <|
  M.pure (.inl (q12, q22, l ++ ([(r3 : Int)]))))
  else (
  M.pure (.inr (s2, s3, l, l)))
def m_nilometerlaw01_Made_b1 (s_bytes : List UInt8) (r2 : Int) (l3 : List Int) (r4 : Int) : (Int × Int × Nat × (List Line)) -> M ((Int × Int × Nat × (List Line)) ⊕ ((List Line) × (List Line) × Int × Int)) := fun (s6, s7, s8, l4) =>
  bif decide ((s8 : Int) < r4) then (
  M.bind (m_nilometerkit_Stream_Next s_bytes s6 s7 r2) fun (r5, q14, q24) =>
  M.grd (decide ((-9223372036854775808 : Int) <= (r5 + 1)) && decide ((r5 + 1) <= (9223372036854775807 : Int))) <|
  M.grd (decide ((-9223372036854775808 : Int) <= (r2 - 1)) && decide ((r2 - 1) <= (9223372036854775807 : Int))) <|
  M.bind (m_nilometerkit_Stream_Next s_bytes q14 q24 (r2 - 1)) fun (r6, q15, q25) =>
  M.grd (decide ((-9223372036854775808 : Int) <= ((r5 + 1) + r6)) && decide (((r5 + 1) + r6) <= (9223372036854775807 : Int))) <|
  M.grd (decide ((0 : Int) <= ((r5 + 1) + r6)) && decide ((0 : Int) < r2)) <|
  M.bind (m_nilometerkit_Stream_Next s_bytes q15 q25 30) fun (r7, q16, q26) =>
  M.bind (m_nilometerlaw01_Levelled s_bytes q16 q26 l3 r5 (((r5 + 1) + r6) % r2) r7) fun (r0, r1, r22, r32, r42, q17, q27) =>
  M.grd (decide ((l4.length + ([(⟨(r0 : Int), (r1 : Int), (r22 : Int), (r32 : Int), (r42 : Int)⟩ : Line)]).length) * 40 <= 140737488355328)) <|
  M.grd (decide ((-9223372036854775808 : Int) <= ((s8 : Int) + 1)) && decide (((s8 : Int) + 1) <= (9223372036854775807 : Int))) <|
  M.pure (.inl (q17, q27, s8 + 1, l4 ++ ([(⟨(r0 : Int), (r1 : Int), (r22 : Int), (r32 : Int), (r42 : Int)⟩ : Line)]))))
  else (
  M.pure (.inr (l4, l4, s6, s7)))
def m_nilometerlaw01_Made (s_bytes : List UInt8) (s_used : Int) (s_mix : Int) (most : Int) : M (Int × (List Line) × (List Int) × Int × Int) :=
  M.bind (m_nilometerkit_Stream_Within s_bytes s_used s_mix 2 most) fun (r2, q1, q2) =>
  M.bind (M.iter (m_nilometerlaw01_Made_b0 s_bytes r2) (q1, q2, [(0 : Int)])) fun (s4, s5, l2, l3) =>
  M.bind (m_nilometerkit_Stream_Within s_bytes s4 s5 1 14) fun (r4, q13, q23) =>
  M.bind (M.iter (m_nilometerlaw01_Made_b1 s_bytes r2 l3 r4) (q13, q23, 0, [])) fun (l5, l6, s9, s10) =>
  M.pure (r2, l6, l3, s9, s10)
theorem nilometerlaw01_Made_ok {R : List Chunk} {b_s : Nat} {C_s_bytes : Cells} {v_s_bytes : Value} (s_bytes : List UInt8) (s_used : Int) (s_mix : Int) (most : Int) (hC_s_bytes : Reads R C_s_bytes) (hs_s_bytes : Sl C_s_bytes v_s_bytes s_bytes) {r : (Int × (List Line) × (List Int) × Int × Int)} (hM : (m_nilometerlaw01_Made s_bytes s_used s_mix most).Ends r) (w : World) (H : St w w [cBlk b_s [v_s_bytes, I s_used, I s_mix] 109] R) : Ret Try.prog 12 #[.pointer (some ⟨b_s, 0, none⟩), I most] w fun v w' => ∃ (y0 : Int) (y1 : List Line) (y2 : List Int) (y3 : Int) (y4 : Int) (u0 : Value) (u1 : Value), (y0, y1, y2, y3, y4) = r /\ v = .tuple #[.agg #[I y0, u0], u1] /\ St w w' [cOwn (α := Line) 34 u0 y1, cOwn (α := Int) 3 u1 y2, cBlk b_s [v_s_bytes, I y3, I y4] 109] R := by
 refine ret_of_W Try.func12 rfl rfl rfl ?_
 refine W.seq ?_
 refine W.region rfl ?_
 refine t_alloc (cs := [I 0, .slice none 0 0]) H Al25 rfl ?_
 intro b_1 w1z H
 refine s_val (x_as (v := .slice none 0 0) rfl) ?_
 refine s_nil ?_
 refine W.seq ?_
 refine W.region rfl ?_
 refine s_val (x_mv (v := .pointer (some ⟨b_s, 0, none⟩)) rfl) ?_
 refine s_val (x_mv (v := I most) rfl) ?_
 obtain ⟨r3z, hx2z, hM⟩ := M.e_bind hM
 refine s_call cf19 [.pointer (some ⟨b_s, 0, none⟩), I 2, I most] rfl (nilometerkit_Stream_Within_ok s_bytes s_used s_mix 2 most (hC_s_bytes.app _) hs_s_bytes hx2z _ (St.give (L := [cBlk b_s [v_s_bytes, I s_used, I s_mix] 109, cBlk b_1 [I 0, .slice none 0 0] 25]) (A := [cBlk b_s [v_s_bytes, I s_used, I s_mix] 109]) (T := [cBlk b_1 [I 0, .slice none 0 0] 25]) (H.pick [1, 0] (by decide) rfl) rfl)) ?_
 rintro vq w4z ⟨r2, q1, q2, hr5z, hvq, H2_⟩
 subst hr5z
 subst vq
 try dsimp only at hM
 replace H : St w w4z [cBlk b_s [v_s_bytes, I q1, I q2] 109, cBlk b_1 [I 0, .slice none 0 0] 25] R := H.pick [1, 0] (by decide) rfl |>.back H2_ rfl
 clear H2_
 refine s_val (x_bld (ps := [(0, I r2)]) (zs := [I 0, .slice none 0 0]) (L' := [I r2, .slice none 0 0]) rfl Try.underlying25 Al25 rfl (Bd25 Try.underlying25) (.cons (cs := [I r2]) rfl rfl rfl rfl rfl <| .nil)) ?_
 refine t_alloc (cs := [I 0, .slice none 0 0]) H Al25 rfl ?_
 intro b_2 w6z H
 refine t_st (k := 0) (b := b_2) (off := 0) (cs := [I 0, .slice none 0 0]) (vs := [I r2, .slice none 0 0]) (cs' := [I r2, .slice none 0 0]) (v := .agg #[I r2, .slice none 0 0]) (L' := [cBlk b_2 [I r2, .slice none 0 0] 25, cBlk b_s [v_s_bytes, I q1, I q2] 109, cBlk b_1 [I 0, .slice none 0 0] 25]) H rfl rfl rfl Sz25 rfl rfl rfl rfl rfl rfl ?_
 intro w7z H
 refine s_nil ?_
 refine W.seq ?_
 refine W.region rfl ?_
 refine t_bs (α := Int) T26 [I 0] [(0 : Int)] H rfl (.cons rfl (Flat.rep_enc _ (0 : Int)) <| .nil) rfl rfl rfl ?_
 intro v8z w9z H
 refine s_val (x_as (v := v8z) rfl) ?_
 refine s_nil ?_
 refine W.seq ?_
 refine W.block ?_
 obtain ⟨ex10z, hi11z, hk12z⟩ := M.e_bind hM
 obtain ⟨m0_, hi11z⟩ := M.e_iter hi11z
 refine W.loop (fun m σ W => ∃ (s2 : Int) (s3 : Int) (l : List Int) (v_l : Value) (ρ : Env), σ = upds ρ [(0, .pointer (some ⟨b_s, 0, none⟩)), (4, .pointer (some ⟨b_1, 0, none⟩)), (6, .pointer (some ⟨b_2, 0, none⟩)), (7, v_l)] /\ M.iterN (m_nilometerlaw01_Made_b0 s_bytes r2) m (s2, s3, l) = some ex10z /\ St w W [cOwn (α := Int) 3 v_l l, cBlk b_2 [I r2, .slice none 0 0] 25, cBlk b_s [v_s_bytes, I s2, I s3] 109, cBlk b_1 [I 0, .slice none 0 0] 25] R) ?_ ?_
 ·exact ⟨_, q1, q2, [(0 : Int)], v8z, _, upds_of _ _ ⟨rfl, rfl, rfl, rfl, trivial⟩, hi11z, H⟩
 ·rintro m15z σ w13z ⟨s2, s3, l, v_l, ρ, rfl, hI14z, H⟩
  obtain ⟨m16z, lt17z, x18z, hM, hN19z⟩ := M.e_iterN hI14z
  simp only [m_nilometerlaw01_Made_b0] at hM
  clear hI14z
  refine W.seq ?_
  refine W.seq ?_
  refine W.region rfl ?_
  refine s_val (x_mv (v := v_l) rfl) ?_
  have hl20z := ((ownSl (H.get (k := 0) rfl))).len_le
  refine s_val (x_lenS T26.und rfl (ownSl (H.get (k := 0) rfl))) ?_
  refine s_val (x_fa (a := .pointer (some ⟨b_2, 0, none⟩)) (v := .pointer (some ⟨b_2, 0, none⟩)) rfl (fa_blk (o := 0) Fd25_0 Sz3)) ?_
  refine s_val (x_ld (p := .pointer (some ⟨b_2, 0, none⟩)) (v := I r2) rfl (ldb_sc Sc3 (H.blk (k := 1) rfl) rfl)) ?_
  refine s_val (x_cmp (kd := .i64) (a := (l.length : Int)) (b := r2) (r := decide ((l.length : Int) < r2)) rfl rfl rfl) ?_
  refine s_nil ?_
  refine W.cond (decide ((l.length : Int) < r2)) rfl (fun c21z => ?_) (fun c21z => ?_)
  ·replace hM := M.e_t hM c21z
   simp only [decide_eq_true_eq, decide_eq_false_iff_not, beq_iff_eq, bne_iff_ne, beq_eq_false_iff_ne, bne_eq_false_iff_eq, ne_eq, Decidable.not_not] at c21z
   refine W.skip ?_
   refine W.block ?_
   refine W.region rfl ?_
   refine s_val (x_mv (v := v_l) rfl) ?_
   refine s_val (x_mv (v := .pointer (some ⟨b_s, 0, none⟩)) rfl) ?_
   obtain ⟨r23z, hx22z, hM⟩ := M.e_bind hM
   refine s_call cf19 [.pointer (some ⟨b_s, 0, none⟩), I (-300), I 300] rfl (nilometerkit_Stream_Within_ok s_bytes s2 s3 (-300) 300 (hC_s_bytes.app _) hs_s_bytes hx22z _ (St.give (L := [cBlk b_s [v_s_bytes, I s2, I s3] 109, cOwn (α := Int) 3 v_l l, cBlk b_2 [I r2, .slice none 0 0] 25, cBlk b_1 [I 0, .slice none 0 0] 25]) (A := [cBlk b_s [v_s_bytes, I s2, I s3] 109]) (T := [cOwn (α := Int) 3 v_l l, cBlk b_2 [I r2, .slice none 0 0] 25, cBlk b_1 [I 0, .slice none 0 0] 25]) (H.pick [2, 0, 1, 3] (by decide) rfl) rfl)) ?_
   rintro vq w24z ⟨r3, q12, q22, hr25z, hvq, H2_⟩
   subst hr25z
   subst vq
   try dsimp only at hM
   replace H : St w w24z [cBlk b_s [v_s_bytes, I q12, I q22] 109, cOwn (α := Int) 3 v_l l, cBlk b_2 [I r2, .slice none 0 0] 25, cBlk b_1 [I 0, .slice none 0 0] 25] R := H.pick [2, 0, 1, 3] (by decide) rfl |>.back H2_ rfl
   clear H2_
   refine t_bs (α := Int) T26 [I r3] [(r3 : Int)] H rfl (.cons rfl (Flat.rep_enc _ (r3 : Int)) <| .nil) rfl rfl rfl ?_
   intro v26z w27z H
   obtain ⟨sd28z, hM⟩ := M.e_grd hM
   simp only [Bool.and_eq_true, decide_eq_true_eq] at sd28z
   refine t_app (α := Int) (k := 2) (l := l) (l2 := [(r3 : Int)]) (l' := l ++ ([(r3 : Int)])) (vy := v26z) T26 rfl H rfl rfl rfl (ownSl (H.get (k := 0) rfl)) (ownLe _ (H.get (k := 0) rfl)) (rfl) (by first | omega | (simp only [List.length_nil] at *; omega)) ?_
   intro v29z w30z H
   replace H : St w w30z [cOwn (α := Int) 3 v26z ([(r3 : Int)]), cBlk b_s [v_s_bytes, I q12, I q22] 109, cOwn (α := Int) 3 v29z (l ++ ([(r3 : Int)])), cBlk b_2 [I r2, .slice none 0 0] 25, cBlk b_1 [I 0, .slice none 0 0] 25] R := H
   refine s_val (x_as (v := v29z) rfl) ?_
   refine s_nil ?_
   exact ⟨m16z, lt17z, q12, q22, l ++ ([(r3 : Int)]), v29z, _, upds_of _ _ ⟨rfl, rfl, rfl, rfl, trivial⟩, M.e_inl hM hN19z, (H.pick [2, 3, 1, 4] (by decide) rfl)⟩
  ·replace hM := M.e_f hM c21z
   simp only [decide_eq_true_eq, decide_eq_false_iff_not, beq_iff_eq, bne_iff_ne, beq_eq_false_iff_ne, bne_eq_false_iff_eq, ne_eq, Decidable.not_not] at c21z
   refine W.exit ?_
   have hX31z := M.e_inr hM hN19z
   subst hX31z
   replace hM := hk12z
   try dsimp only at hM
   refine W.seq ?_
   refine W.seq ?_
   refine W.region rfl ?_
   refine s_val (x_mv (v := .pointer (some ⟨b_s, 0, none⟩)) rfl) ?_
   obtain ⟨r33z, hx32z, hM⟩ := M.e_bind hM
   refine s_call cf19 [.pointer (some ⟨b_s, 0, none⟩), I 1, I 14] rfl (nilometerkit_Stream_Within_ok s_bytes s2 s3 1 14 (hC_s_bytes.app _) hs_s_bytes hx32z _ (St.give (L := [cBlk b_s [v_s_bytes, I s2, I s3] 109, cOwn (α := Int) 3 v_l l, cBlk b_2 [I r2, .slice none 0 0] 25, cBlk b_1 [I 0, .slice none 0 0] 25]) (A := [cBlk b_s [v_s_bytes, I s2, I s3] 109]) (T := [cOwn (α := Int) 3 v_l l, cBlk b_2 [I r2, .slice none 0 0] 25, cBlk b_1 [I 0, .slice none 0 0] 25]) (H.pick [2, 0, 1, 3] (by decide) rfl) rfl)) ?_
   rintro vq w34z ⟨r4, q13, q23, hr35z, hvq, H2_⟩
   subst hr35z
   subst vq
   try dsimp only at hM
   replace H : St w w34z [cBlk b_s [v_s_bytes, I q13, I q23] 109, cOwn (α := Int) 3 v_l l, cBlk b_2 [I r2, .slice none 0 0] 25, cBlk b_1 [I 0, .slice none 0 0] 25] R := H.pick [2, 0, 1, 3] (by decide) rfl |>.back H2_ rfl
   clear H2_
   refine s_val (x_mv (v := I 0) rfl) ?_
   refine s_nil ?_
   refine W.block ?_
   replace H : St w w34z [cOwn (α := Line) 34 (.slice none 0 0) ([]), cBlk b_s [v_s_bytes, I q13, I q23] 109, cOwn (α := Int) 3 v_l l, cBlk b_2 [I r2, .slice none 0 0] 25, cBlk b_1 [I 0, .slice none 0 0] 25] R := H.nilOwn (α := Line) 34
   obtain ⟨ex36z, hi37z, hk38z⟩ := M.e_bind hM
   obtain ⟨m0_, hi37z⟩ := M.e_iter hi37z
   refine W.loop (fun m σ W => ∃ (s6 : Int) (s7 : Int) (s8 : Nat) (l4 : List Line) (v_l4 : Value) (ρ : Env), σ = upds ρ [(0, .pointer (some ⟨b_s, 0, none⟩)), (4, .pointer (some ⟨b_1, 0, none⟩)), (6, .pointer (some ⟨b_2, 0, none⟩)), (7, v_l), (26, I r4), (27, I (s8 : Int))] /\ M.iterN (m_nilometerlaw01_Made_b1 s_bytes r2 l r4) m (s6, s7, s8, l4) = some ex36z /\ St w W [cOwn (α := Line) 34 v_l4 l4, cBlk b_s [v_s_bytes, I s6, I s7] 109, cOwn (α := Int) 3 v_l l, cBlk b_2 [I r2, v_l4] 25, cBlk b_1 [I 0, .slice none 0 0] 25] R) ?_ ?_
   ·exact ⟨_, q13, q23, 0, [], (.slice none 0 0), _, upds_of _ _ ⟨rfl, rfl, rfl, rfl, rfl, rfl, trivial⟩, hi37z, H⟩
   ·rintro m41z σ w39z ⟨s6, s7, s8, l4, v_l4, ρ, rfl, hI40z, H⟩
    obtain ⟨m42z, lt43z, x44z, hM, hN45z⟩ := M.e_iterN hI40z
    simp only [m_nilometerlaw01_Made_b1] at hM
    clear hI40z
    refine W.seq ?_
    refine W.region rfl ?_
    refine s_val (x_cmp (kd := .i64) (a := (s8 : Int)) (b := r4) (r := decide ((s8 : Int) < r4)) rfl rfl rfl) ?_
    refine s_nil ?_
    refine W.seq ?_
    refine W.cond (decide ((s8 : Int) < r4)) rfl (fun c46z => ?_) (fun c46z => ?_)
    ·replace hM := M.e_t hM c46z
     simp only [decide_eq_true_eq, decide_eq_false_iff_not, beq_iff_eq, bne_iff_ne, beq_eq_false_iff_ne, bne_eq_false_iff_eq, ne_eq, Decidable.not_not] at c46z
     refine W.skip ?_
     refine W.seq ?_
     refine W.block ?_
     refine W.seq ?_
     refine W.region rfl ?_
     refine s_val (x_mv (v := .pointer (some ⟨b_s, 0, none⟩)) rfl) ?_
     refine s_val (x_fa (a := .pointer (some ⟨b_2, 0, none⟩)) (v := .pointer (some ⟨b_2, 0, none⟩)) rfl (fa_blk (o := 0) Fd25_0 Sz3)) ?_
     refine s_val (x_ld (p := .pointer (some ⟨b_2, 0, none⟩)) (v := I r2) rfl (ldb_sc Sc3 (H.blk (k := 3) rfl) rfl)) ?_
     obtain ⟨r48z, hx47z, hM⟩ := M.e_bind hM
     refine s_call cf14 [.pointer (some ⟨b_s, 0, none⟩), I r2] rfl (nilometerkit_Stream_Next_ok s_bytes s6 s7 r2 (hC_s_bytes.app _) hs_s_bytes hx47z _ (St.give (L := [cBlk b_s [v_s_bytes, I s6, I s7] 109, cOwn (α := Line) 34 v_l4 l4, cOwn (α := Int) 3 v_l l, cBlk b_2 [I r2, v_l4] 25, cBlk b_1 [I 0, .slice none 0 0] 25]) (A := [cBlk b_s [v_s_bytes, I s6, I s7] 109]) (T := [cOwn (α := Line) 34 v_l4 l4, cOwn (α := Int) 3 v_l l, cBlk b_2 [I r2, v_l4] 25, cBlk b_1 [I 0, .slice none 0 0] 25]) (H.pick [1, 0, 2, 3, 4] (by decide) rfl) rfl)) ?_
     rintro vq w49z ⟨r5, q14, q24, hr50z, hvq, H2_⟩
     subst hr50z
     subst vq
     try dsimp only at hM
     replace H : St w w49z [cBlk b_s [v_s_bytes, I q14, I q24] 109, cOwn (α := Line) 34 v_l4 l4, cOwn (α := Int) 3 v_l l, cBlk b_2 [I r2, v_l4] 25, cBlk b_1 [I 0, .slice none 0 0] 25] R := H.pick [1, 0, 2, 3, 4] (by decide) rfl |>.back H2_ rfl
     clear H2_
     refine s_val (x_as (v := I r5) rfl) ?_
     refine s_nil ?_
     refine W.seq ?_
     refine W.draw (fun W => St w W [cOwn (α := Line) 34 v_l4 l4, cOwn (α := Int) 3 v_l l, cBlk b_2 [I r2, v_l4] 25, cBlk b_1 [I 0, .slice none 0 0] 25] R) [(0, true), (1, true), (2, true), (3, true), (4, true), (5, true), (8, true), (9, true), (6, false), (7, true), (10, true), (11, true)] mixed (by decide +kernel) rfl ?_
     intro w51z hx_
     replace H : St w w51z [cBlk b_s [v_s_bytes, I q14, I q24] 109, cOwn (α := Line) 34 v_l4 l4, cOwn (α := Int) 3 v_l l, cBlk b_2 [I r2, v_l4] 25, cBlk b_1 [I 0, .slice none 0 0] 25] R := H.ext hx_
     clear hx_
     refine ⟨(H.pick [1, 2, 3, 4] (by decide) rfl), ?_⟩
     refine d_q rfl (fun w' H => x_mv (v := I r5) rfl) ?_
     obtain ⟨sd52z, hM⟩ := M.e_grd hM
     simp only [Bool.and_eq_true, decide_eq_true_eq] at sd52z
     refine d_q rfl (fun w' H => x_ari (a := r5) (b := 1) (r := r5 + 1) rfl rfl rfl (by omega)) ?_
     refine d_q rfl (fun w' H => x_mv (v := .pointer (some ⟨b_s, 0, none⟩)) rfl) ?_
     refine d_q rfl (fun w' H => x_fa (a := .pointer (some ⟨b_2, 0, none⟩)) (v := .pointer (some ⟨b_2, 0, none⟩)) rfl (fa_blk (o := 0) Fd25_0 Sz3)) ?_
     refine d_q rfl (fun w' H => x_ld (p := .pointer (some ⟨b_2, 0, none⟩)) (v := I r2) rfl (ldb_sc Sc3 (H.blk (k := 2) rfl) rfl)) ?_
     obtain ⟨sd53z, hM⟩ := M.e_grd hM
     simp only [Bool.and_eq_true, decide_eq_true_eq] at sd53z
     refine d_q rfl (fun w' H => x_ari (a := r2) (b := 1) (r := r2 - 1) rfl rfl rfl (by omega)) ?_
     refine d_q rfl (fun w' H => x_fa (a := .pointer (some ⟨b_2, 0, none⟩)) (v := .pointer (some ⟨b_2, 0, none⟩)) rfl (fa_blk (o := 0) Fd25_0 Sz3)) ?_
     refine d_q rfl (fun w' H => x_ld (p := .pointer (some ⟨b_2, 0, none⟩)) (v := I r2) rfl (ldb_sc Sc3 (H.blk (k := 2) rfl) rfl)) ?_
     refine d_l rfl ?_
     obtain ⟨r55z, hx54z, hM⟩ := M.e_bind hM
     refine s_call cf14 [.pointer (some ⟨b_s, 0, none⟩), I (r2 - 1)] rfl (nilometerkit_Stream_Next_ok s_bytes q14 q24 (r2 - 1) (hC_s_bytes.app _) hs_s_bytes hx54z _ (St.give (T := [cOwn (α := Line) 34 v_l4 l4, cOwn (α := Int) 3 v_l l, cBlk b_2 [I r2, v_l4] 25, cBlk b_1 [I 0, .slice none 0 0] 25]) H rfl)) ?_
     rintro vq w56z ⟨r6, q15, q25, hr57z, hvq, H2_⟩
     subst hr57z
     subst vq
     try dsimp only at hM
     replace H : St w w56z [cBlk b_s [v_s_bytes, I q15, I q25] 109, cOwn (α := Line) 34 v_l4 l4, cOwn (α := Int) 3 v_l l, cBlk b_2 [I r2, v_l4] 25, cBlk b_1 [I 0, .slice none 0 0] 25] R := H.back H2_ rfl
     clear H2_
     refine s_nil ⟨(H.pick [1, 2, 3, 4] (by decide) rfl), ?_⟩
     obtain ⟨sd58z, hM⟩ := M.e_grd hM
     simp only [Bool.and_eq_true, decide_eq_true_eq] at sd58z
     refine d_q rfl (fun w' H => x_ari (a := r5 + 1) (b := r6) (r := (r5 + 1) + r6) rfl rfl rfl (by omega)) ?_
     obtain ⟨sd59z, hM⟩ := M.e_grd hM
     simp only [Bool.and_eq_true, decide_eq_true_eq] at sd59z
     refine d_q rfl (fun w' H => x_rem' (a := (r5 + 1) + r6) (b := r2) rfl rfl (by omega)) ?_
     refine d_q rfl (fun w' H => x_as (v := I (((r5 + 1) + r6) % r2)) rfl) ?_
     refine d_nil ?_
     refine W.drawT (fun W => St w W [cOwn (α := Int) 3 v_l l, cBlk b_1 [I 0, .slice none 0 0] 25] R) (.q 0 (.q 2 (.q 3 (.q 4 (.q 5 (.q 6 (.l2 1 (.l 7 (.l 8 (.l 9 (.l 10 (.q 11 (.l 12 .nil)))))) 7 (.l2 1 (.l 8 (.l 9 (.l 10 (.q 11 (.l 12 .nil))))) 8 (.l2 1 (.l 9 (.l 10 (.q 11 (.l 12 .nil)))) 9 (.l 1 (.l 10 (.q 11 (.l 12 .nil))))))))))))) mixed (by decide +kernel) rfl ?_
     intro w60z hx_
     replace H : St w w60z [cBlk b_s [v_s_bytes, I q15, I q25] 109, cOwn (α := Line) 34 v_l4 l4, cOwn (α := Int) 3 v_l l, cBlk b_2 [I r2, v_l4] 25, cBlk b_1 [I 0, .slice none 0 0] 25] R := H.ext hx_
     clear hx_
     refine ⟨(H.pick [2, 4] (by decide) rfl), ?_⟩
     refine t_q rfl (fun w' H => x_fa (a := .pointer (some ⟨b_2, 0, none⟩)) (v := .pointer (some ⟨b_2, 1, none⟩)) rfl (fa_blk (o := 0) Fd25_1 Sz23)) ?_
     refine t_q rfl (fun w' H => x_mv (v := .pointer (some ⟨b_s, 0, none⟩)) rfl) ?_
     refine t_q rfl (fun w' H => x_mv (v := v_l) rfl) ?_
     refine t_q rfl (fun w' H => x_mv (v := I r5) rfl) ?_
     refine t_q rfl (fun w' H => x_mv (v := I (((r5 + 1) + r6) % r2)) rfl) ?_
     refine t_q rfl (fun w' H => x_mv (v := .pointer (some ⟨b_s, 0, none⟩)) rfl) ?_
     refine t_l2 rfl rfl ?_ ?_
     ·skip
      refine s_val (x_ld (p := .pointer (some ⟨b_2, 1, none⟩)) (v := v_l4) rfl (ldb_sc Sc23 (H.blk (k := 3) rfl) rfl)) ?_
      have hvc_q75z := Sl.cells (ownSl (H.get (k := 1) rfl))
      have hvo_q75z := Sl.oc (ownSl (H.get (k := 1) rfl))
      refine s_nil ⟨(H.pick [2, 4] (by decide) rfl), ?_⟩
      refine t_l rfl ?_
      obtain ⟨r77z, hx76z, hM⟩ := M.e_bind hM
      refine s_call cf14 [.pointer (some ⟨b_s, 0, none⟩), I 30] rfl (nilometerkit_Stream_Next_ok s_bytes q15 q25 30 (hC_s_bytes.app _) hs_s_bytes hx76z _ (St.give (T := [cOwn (α := Line) 34 v_l4 l4, cOwn (α := Int) 3 v_l l, cBlk b_2 [I r2, v_l4] 25, cBlk b_1 [I 0, .slice none 0 0] 25]) H rfl)) ?_
      rintro vq w78z ⟨r7, q16, q26, hr79z, hvq, H2_⟩
      subst hr79z
      subst vq
      try dsimp only at hM
      replace H : St w w78z [cBlk b_s [v_s_bytes, I q16, I q26] 109, cOwn (α := Line) 34 v_l4 l4, cOwn (α := Int) 3 v_l l, cBlk b_2 [I r2, v_l4] 25, cBlk b_1 [I 0, .slice none 0 0] 25] R := H.back H2_ rfl
      clear H2_
      refine s_nil ⟨(H.pick [2, 4] (by decide) rfl), ?_⟩
      refine t_l rfl ?_
      obtain ⟨r81z, hx80z, hM⟩ := M.e_bind hM
      refine s_call cf16 [.pointer (some ⟨b_s, 0, none⟩), v_l, I r5, I (((r5 + 1) + r6) % r2), I r7] rfl (nilometerlaw01_Levelled_ok s_bytes q16 q26 l r5 (((r5 + 1) + r6) % r2) r7 (hC_s_bytes.app _) hs_s_bytes (Reads.of (k := 1) rfl ownLe) (ownSl (H.get (k := 2) rfl)) hx80z _ (St.give (T := [cOwn (α := Line) 34 v_l4 l4, cOwn (α := Int) 3 v_l l, cBlk b_2 [I r2, v_l4] 25, cBlk b_1 [I 0, .slice none 0 0] 25]) H rfl)) ?_
      rintro vq w82z ⟨r0, r1, r22, r32, r42, q17, q27, hr83z, hvq, H2_⟩
      subst hr83z
      subst vq
      try dsimp only at hM
      replace H : St w w82z [cBlk b_s [v_s_bytes, I q17, I q27] 109, cOwn (α := Line) 34 v_l4 l4, cOwn (α := Int) 3 v_l l, cBlk b_2 [I r2, v_l4] 25, cBlk b_1 [I 0, .slice none 0 0] 25] R := H.back H2_ rfl
      clear H2_
      refine s_nil ⟨(H.pick [2, 4] (by decide) rfl), ?_⟩
      refine t_l rfl ?_
      refine t_bs (α := Line) T23 [.agg #[I r0, I r1, I r22, I r32, I r42]] [(⟨(r0 : Int), (r1 : Int), (r22 : Int), (r32 : Int), (r42 : Int)⟩ : Line)] H rfl (.cons rfl (Flat.rep_enc _ (⟨(r0 : Int), (r1 : Int), (r22 : Int), (r32 : Int), (r42 : Int)⟩ : Line)) <| .nil) rfl rfl rfl ?_
      intro v84z w85z H
      have hvc_q86z := Sl.cells (ownSl (H.get (k := 0) rfl))
      have hvo_q86z := Sl.oc (ownSl (H.get (k := 0) rfl))
      refine s_nil ⟨(H.pick [3, 5] (by decide) rfl), ?_⟩
      refine t_l rfl ?_
      obtain ⟨sd87z, hM⟩ := M.e_grd hM
      simp only [Bool.and_eq_true, decide_eq_true_eq] at sd87z
      refine t_app (α := Line) (k := 2) (l := l4) (l2 := [(⟨(r0 : Int), (r1 : Int), (r22 : Int), (r32 : Int), (r42 : Int)⟩ : Line)]) (l' := l4 ++ ([(⟨(r0 : Int), (r1 : Int), (r22 : Int), (r32 : Int), (r42 : Int)⟩ : Line)])) (vy := v84z) T23 rfl H rfl rfl rfl (ownSl (H.get (k := 0) rfl)) (ownLe _ (H.get (k := 0) rfl)) (rfl) (by first | omega | (simp only [List.length_nil] at *; omega)) ?_
      intro v88z w89z H
      replace H : St w w89z [cOwn (α := Line) 34 v84z ([(⟨(r0 : Int), (r1 : Int), (r22 : Int), (r32 : Int), (r42 : Int)⟩ : Line)]), cBlk b_s [v_s_bytes, I q17, I q27] 109, cOwn (α := Line) 34 v88z (l4 ++ ([(⟨(r0 : Int), (r1 : Int), (r22 : Int), (r32 : Int), (r42 : Int)⟩ : Line)])), cOwn (α := Int) 3 v_l l, cBlk b_2 [I r2, v_l4] 25, cBlk b_1 [I 0, .slice none 0 0] 25] R := H
      have hvc_q90z := Sl.cells (ownSl (H.get (k := 2) rfl))
      have hvo_q90z := Sl.oc (ownSl (H.get (k := 2) rfl))
      refine s_nil ⟨(H.pick [3, 5] (by decide) rfl), ?_⟩
      refine t_q rfl (fun w' H => x_fa (a := .pointer (some ⟨b_2, 0, none⟩)) (v := .pointer (some ⟨b_2, 1, none⟩)) rfl (fa_blk (o := 0) Fd25_1 Sz23)) ?_
      refine t_l rfl ?_
      refine t_st (k := 4) (b := b_2) (off := 1) (cs := [I r2, v_l4]) (vs := [v88z]) (cs' := [I r2, v88z]) (v := v88z) (L' := [cOwn (α := Line) 34 v84z ([(⟨(r0 : Int), (r1 : Int), (r22 : Int), (r32 : Int), (r42 : Int)⟩ : Line)]), cBlk b_s [v_s_bytes, I q17, I q27] 109, cOwn (α := Line) 34 v88z (l4 ++ ([(⟨(r0 : Int), (r1 : Int), (r22 : Int), (r32 : Int), (r42 : Int)⟩ : Line)])), cOwn (α := Int) 3 v_l l, cBlk b_2 [I r2, v88z] 25, cBlk b_1 [I 0, .slice none 0 0] 25]) H rfl rfl rfl Sz23 (Sl.cells (ownSl (H.get (k := 2) rfl))) rfl rfl (by simp only [List.all_cons, List.all_nil, Bool.true_and, Bool.and_true, Sl.oc (ownSl (H.get (k := 2) rfl))]; try rfl) rfl rfl ?_
      intro w91z H
      refine s_nil ⟨(H.pick [3, 5] (by decide) rfl), ?_⟩
      refine t_nil ?_
      refine W.region rfl ?_
      obtain ⟨sd92z, hM⟩ := M.e_grd hM
      simp only [Bool.and_eq_true, decide_eq_true_eq] at sd92z
      refine s_val (x_ari (a := (s8 : Int)) (b := 1) (r := (s8 : Int) + 1) rfl rfl rfl (by omega)) ?_
      refine s_val (x_mv (v := I ((s8 : Int) + 1)) rfl) ?_
      refine s_nil ?_
      exact ⟨m42z, lt43z, q17, q27, s8 + 1, l4 ++ ([(⟨(r0 : Int), (r1 : Int), (r22 : Int), (r32 : Int), (r42 : Int)⟩ : Line)]), v88z, _, upds_of _ _ ⟨rfl, rfl, rfl, rfl, rfl, rfl, trivial⟩, M.e_inl hM hN45z, (H.pick [2, 1, 3, 4, 5] (by decide) rfl)⟩
     ·skip
      obtain ⟨r94z, hx93z, hM⟩ := M.e_bind hM
      refine s_call cf14 [.pointer (some ⟨b_s, 0, none⟩), I 30] rfl (nilometerkit_Stream_Next_ok s_bytes q15 q25 30 (hC_s_bytes.app _) hs_s_bytes hx93z _ (St.give (T := [cOwn (α := Line) 34 v_l4 l4, cOwn (α := Int) 3 v_l l, cBlk b_2 [I r2, v_l4] 25, cBlk b_1 [I 0, .slice none 0 0] 25]) H rfl)) ?_
      rintro vq w95z ⟨r7, q16, q26, hr96z, hvq, H2_⟩
      subst hr96z
      subst vq
      try dsimp only at hM
      replace H : St w w95z [cBlk b_s [v_s_bytes, I q16, I q26] 109, cOwn (α := Line) 34 v_l4 l4, cOwn (α := Int) 3 v_l l, cBlk b_2 [I r2, v_l4] 25, cBlk b_1 [I 0, .slice none 0 0] 25] R := H.back H2_ rfl
      clear H2_
      have hvc_q97z := Sl.cells (ownSl (H.get (k := 1) rfl))
      have hvo_q97z := Sl.oc (ownSl (H.get (k := 1) rfl))
      refine s_nil ⟨(H.pick [2, 4] (by decide) rfl), ?_⟩
      refine t_l2 rfl rfl ?_ ?_
      ·skip
       refine s_val (x_ld (p := .pointer (some ⟨b_2, 1, none⟩)) (v := v_l4) rfl (ldb_sc Sc23 (H.blk (k := 3) rfl) rfl)) ?_
       refine s_nil ⟨(H.pick [2, 4] (by decide) rfl), ?_⟩
       refine t_l rfl ?_
       obtain ⟨r109z, hx108z, hM⟩ := M.e_bind hM
       refine s_call cf16 [.pointer (some ⟨b_s, 0, none⟩), v_l, I r5, I (((r5 + 1) + r6) % r2), I r7] rfl (nilometerlaw01_Levelled_ok s_bytes q16 q26 l r5 (((r5 + 1) + r6) % r2) r7 (hC_s_bytes.app _) hs_s_bytes (Reads.of (k := 1) rfl ownLe) (ownSl (H.get (k := 2) rfl)) hx108z _ (St.give (T := [cOwn (α := Line) 34 v_l4 l4, cOwn (α := Int) 3 v_l l, cBlk b_2 [I r2, v_l4] 25, cBlk b_1 [I 0, .slice none 0 0] 25]) H rfl)) ?_
       rintro vq w110z ⟨r0, r1, r22, r32, r42, q17, q27, hr111z, hvq, H2_⟩
       subst hr111z
       subst vq
       try dsimp only at hM
       replace H : St w w110z [cBlk b_s [v_s_bytes, I q17, I q27] 109, cOwn (α := Line) 34 v_l4 l4, cOwn (α := Int) 3 v_l l, cBlk b_2 [I r2, v_l4] 25, cBlk b_1 [I 0, .slice none 0 0] 25] R := H.back H2_ rfl
       clear H2_
       refine s_nil ⟨(H.pick [2, 4] (by decide) rfl), ?_⟩
       refine t_l rfl ?_
       refine t_bs (α := Line) T23 [.agg #[I r0, I r1, I r22, I r32, I r42]] [(⟨(r0 : Int), (r1 : Int), (r22 : Int), (r32 : Int), (r42 : Int)⟩ : Line)] H rfl (.cons rfl (Flat.rep_enc _ (⟨(r0 : Int), (r1 : Int), (r22 : Int), (r32 : Int), (r42 : Int)⟩ : Line)) <| .nil) rfl rfl rfl ?_
       intro v112z w113z H
       have hvc_q114z := Sl.cells (ownSl (H.get (k := 0) rfl))
       have hvo_q114z := Sl.oc (ownSl (H.get (k := 0) rfl))
       refine s_nil ⟨(H.pick [3, 5] (by decide) rfl), ?_⟩
       refine t_l rfl ?_
       obtain ⟨sd115z, hM⟩ := M.e_grd hM
       simp only [Bool.and_eq_true, decide_eq_true_eq] at sd115z
       refine t_app (α := Line) (k := 2) (l := l4) (l2 := [(⟨(r0 : Int), (r1 : Int), (r22 : Int), (r32 : Int), (r42 : Int)⟩ : Line)]) (l' := l4 ++ ([(⟨(r0 : Int), (r1 : Int), (r22 : Int), (r32 : Int), (r42 : Int)⟩ : Line)])) (vy := v112z) T23 rfl H rfl rfl rfl (ownSl (H.get (k := 0) rfl)) (ownLe _ (H.get (k := 0) rfl)) (rfl) (by first | omega | (simp only [List.length_nil] at *; omega)) ?_
       intro v116z w117z H
       replace H : St w w117z [cOwn (α := Line) 34 v112z ([(⟨(r0 : Int), (r1 : Int), (r22 : Int), (r32 : Int), (r42 : Int)⟩ : Line)]), cBlk b_s [v_s_bytes, I q17, I q27] 109, cOwn (α := Line) 34 v116z (l4 ++ ([(⟨(r0 : Int), (r1 : Int), (r22 : Int), (r32 : Int), (r42 : Int)⟩ : Line)])), cOwn (α := Int) 3 v_l l, cBlk b_2 [I r2, v_l4] 25, cBlk b_1 [I 0, .slice none 0 0] 25] R := H
       have hvc_q118z := Sl.cells (ownSl (H.get (k := 2) rfl))
       have hvo_q118z := Sl.oc (ownSl (H.get (k := 2) rfl))
       refine s_nil ⟨(H.pick [3, 5] (by decide) rfl), ?_⟩
       refine t_q rfl (fun w' H => x_fa (a := .pointer (some ⟨b_2, 0, none⟩)) (v := .pointer (some ⟨b_2, 1, none⟩)) rfl (fa_blk (o := 0) Fd25_1 Sz23)) ?_
       refine t_l rfl ?_
       refine t_st (k := 4) (b := b_2) (off := 1) (cs := [I r2, v_l4]) (vs := [v116z]) (cs' := [I r2, v116z]) (v := v116z) (L' := [cOwn (α := Line) 34 v112z ([(⟨(r0 : Int), (r1 : Int), (r22 : Int), (r32 : Int), (r42 : Int)⟩ : Line)]), cBlk b_s [v_s_bytes, I q17, I q27] 109, cOwn (α := Line) 34 v116z (l4 ++ ([(⟨(r0 : Int), (r1 : Int), (r22 : Int), (r32 : Int), (r42 : Int)⟩ : Line)])), cOwn (α := Int) 3 v_l l, cBlk b_2 [I r2, v116z] 25, cBlk b_1 [I 0, .slice none 0 0] 25]) H rfl rfl rfl Sz23 (Sl.cells (ownSl (H.get (k := 2) rfl))) rfl rfl (by simp only [List.all_cons, List.all_nil, Bool.true_and, Bool.and_true, Sl.oc (ownSl (H.get (k := 2) rfl))]; try rfl) rfl rfl ?_
       intro w119z H
       refine s_nil ⟨(H.pick [3, 5] (by decide) rfl), ?_⟩
       refine t_nil ?_
       refine W.region rfl ?_
       obtain ⟨sd120z, hM⟩ := M.e_grd hM
       simp only [Bool.and_eq_true, decide_eq_true_eq] at sd120z
       refine s_val (x_ari (a := (s8 : Int)) (b := 1) (r := (s8 : Int) + 1) rfl rfl rfl (by omega)) ?_
       refine s_val (x_mv (v := I ((s8 : Int) + 1)) rfl) ?_
       refine s_nil ?_
       exact ⟨m42z, lt43z, q17, q27, s8 + 1, l4 ++ ([(⟨(r0 : Int), (r1 : Int), (r22 : Int), (r32 : Int), (r42 : Int)⟩ : Line)]), v116z, _, upds_of _ _ ⟨rfl, rfl, rfl, rfl, rfl, rfl, trivial⟩, M.e_inl hM hN45z, (H.pick [2, 1, 3, 4, 5] (by decide) rfl)⟩
      ·skip
       obtain ⟨r122z, hx121z, hM⟩ := M.e_bind hM
       refine s_call cf16 [.pointer (some ⟨b_s, 0, none⟩), v_l, I r5, I (((r5 + 1) + r6) % r2), I r7] rfl (nilometerlaw01_Levelled_ok s_bytes q16 q26 l r5 (((r5 + 1) + r6) % r2) r7 (hC_s_bytes.app _) hs_s_bytes (Reads.of (k := 1) rfl ownLe) (ownSl (H.get (k := 2) rfl)) hx121z _ (St.give (T := [cOwn (α := Line) 34 v_l4 l4, cOwn (α := Int) 3 v_l l, cBlk b_2 [I r2, v_l4] 25, cBlk b_1 [I 0, .slice none 0 0] 25]) H rfl)) ?_
       rintro vq w123z ⟨r0, r1, r22, r32, r42, q17, q27, hr124z, hvq, H2_⟩
       subst hr124z
       subst vq
       try dsimp only at hM
       replace H : St w w123z [cBlk b_s [v_s_bytes, I q17, I q27] 109, cOwn (α := Line) 34 v_l4 l4, cOwn (α := Int) 3 v_l l, cBlk b_2 [I r2, v_l4] 25, cBlk b_1 [I 0, .slice none 0 0] 25] R := H.back H2_ rfl
       clear H2_
       refine s_nil ⟨(H.pick [2, 4] (by decide) rfl), ?_⟩
       obtain ⟨sd127z, hM⟩ := M.e_grd hM
       simp only [Bool.and_eq_true, decide_eq_true_eq] at sd127z
       refine t_l2 rfl rfl ?_ ?_
       ·skip
        refine s_val (x_ld (p := .pointer (some ⟨b_2, 1, none⟩)) (v := v_l4) rfl (ldb_sc Sc23 (H.blk (k := 3) rfl) rfl)) ?_
        refine s_nil ⟨(H.pick [2, 4] (by decide) rfl), ?_⟩
        refine t_l rfl ?_
        refine t_bs (α := Line) T23 [.agg #[I r0, I r1, I r22, I r32, I r42]] [(⟨(r0 : Int), (r1 : Int), (r22 : Int), (r32 : Int), (r42 : Int)⟩ : Line)] H rfl (.cons rfl (Flat.rep_enc _ (⟨(r0 : Int), (r1 : Int), (r22 : Int), (r32 : Int), (r42 : Int)⟩ : Line)) <| .nil) rfl rfl rfl ?_
        intro v131z w132z H
        have hvc_q133z := Sl.cells (ownSl (H.get (k := 0) rfl))
        have hvo_q133z := Sl.oc (ownSl (H.get (k := 0) rfl))
        refine s_nil ⟨(H.pick [3, 5] (by decide) rfl), ?_⟩
        refine t_l rfl ?_
        refine t_app (α := Line) (k := 2) (l := l4) (l2 := [(⟨(r0 : Int), (r1 : Int), (r22 : Int), (r32 : Int), (r42 : Int)⟩ : Line)]) (l' := l4 ++ ([(⟨(r0 : Int), (r1 : Int), (r22 : Int), (r32 : Int), (r42 : Int)⟩ : Line)])) (vy := v131z) T23 rfl H rfl rfl rfl (ownSl (H.get (k := 0) rfl)) (ownLe _ (H.get (k := 0) rfl)) (rfl) (by first | omega | (simp only [List.length_nil] at *; omega)) ?_
        intro v134z w135z H
        replace H : St w w135z [cOwn (α := Line) 34 v131z ([(⟨(r0 : Int), (r1 : Int), (r22 : Int), (r32 : Int), (r42 : Int)⟩ : Line)]), cBlk b_s [v_s_bytes, I q17, I q27] 109, cOwn (α := Line) 34 v134z (l4 ++ ([(⟨(r0 : Int), (r1 : Int), (r22 : Int), (r32 : Int), (r42 : Int)⟩ : Line)])), cOwn (α := Int) 3 v_l l, cBlk b_2 [I r2, v_l4] 25, cBlk b_1 [I 0, .slice none 0 0] 25] R := H
        have hvc_q136z := Sl.cells (ownSl (H.get (k := 2) rfl))
        have hvo_q136z := Sl.oc (ownSl (H.get (k := 2) rfl))
        refine s_nil ⟨(H.pick [3, 5] (by decide) rfl), ?_⟩
        refine t_q rfl (fun w' H => x_fa (a := .pointer (some ⟨b_2, 0, none⟩)) (v := .pointer (some ⟨b_2, 1, none⟩)) rfl (fa_blk (o := 0) Fd25_1 Sz23)) ?_
        refine t_l rfl ?_
        refine t_st (k := 4) (b := b_2) (off := 1) (cs := [I r2, v_l4]) (vs := [v134z]) (cs' := [I r2, v134z]) (v := v134z) (L' := [cOwn (α := Line) 34 v131z ([(⟨(r0 : Int), (r1 : Int), (r22 : Int), (r32 : Int), (r42 : Int)⟩ : Line)]), cBlk b_s [v_s_bytes, I q17, I q27] 109, cOwn (α := Line) 34 v134z (l4 ++ ([(⟨(r0 : Int), (r1 : Int), (r22 : Int), (r32 : Int), (r42 : Int)⟩ : Line)])), cOwn (α := Int) 3 v_l l, cBlk b_2 [I r2, v134z] 25, cBlk b_1 [I 0, .slice none 0 0] 25]) H rfl rfl rfl Sz23 (Sl.cells (ownSl (H.get (k := 2) rfl))) rfl rfl (by simp only [List.all_cons, List.all_nil, Bool.true_and, Bool.and_true, Sl.oc (ownSl (H.get (k := 2) rfl))]; try rfl) rfl rfl ?_
        intro w137z H
        refine s_nil ⟨(H.pick [3, 5] (by decide) rfl), ?_⟩
        refine t_nil ?_
        refine W.region rfl ?_
        obtain ⟨sd138z, hM⟩ := M.e_grd hM
        simp only [Bool.and_eq_true, decide_eq_true_eq] at sd138z
        refine s_val (x_ari (a := (s8 : Int)) (b := 1) (r := (s8 : Int) + 1) rfl rfl rfl (by omega)) ?_
        refine s_val (x_mv (v := I ((s8 : Int) + 1)) rfl) ?_
        refine s_nil ?_
        exact ⟨m42z, lt43z, q17, q27, s8 + 1, l4 ++ ([(⟨(r0 : Int), (r1 : Int), (r22 : Int), (r32 : Int), (r42 : Int)⟩ : Line)]), v134z, _, upds_of _ _ ⟨rfl, rfl, rfl, rfl, rfl, rfl, trivial⟩, M.e_inl hM hN45z, (H.pick [2, 1, 3, 4, 5] (by decide) rfl)⟩
       ·skip
        refine t_bs (α := Line) T23 [.agg #[I r0, I r1, I r22, I r32, I r42]] [(⟨(r0 : Int), (r1 : Int), (r22 : Int), (r32 : Int), (r42 : Int)⟩ : Line)] H rfl (.cons rfl (Flat.rep_enc _ (⟨(r0 : Int), (r1 : Int), (r22 : Int), (r32 : Int), (r42 : Int)⟩ : Line)) <| .nil) rfl rfl rfl ?_
        intro v139z w140z H
        have hvc_q141z := Sl.cells (ownSl (H.get (k := 0) rfl))
        have hvo_q141z := Sl.oc (ownSl (H.get (k := 0) rfl))
        refine s_nil ⟨(H.pick [3, 5] (by decide) rfl), ?_⟩
        refine t_l rfl ?_
        refine s_val (x_ld (p := .pointer (some ⟨b_2, 1, none⟩)) (v := v_l4) rfl (ldb_sc Sc23 (H.blk (k := 4) rfl) rfl)) ?_
        refine s_nil ⟨(H.pick [3, 5] (by decide) rfl), ?_⟩
        refine t_l rfl ?_
        refine t_app (α := Line) (k := 2) (l := l4) (l2 := [(⟨(r0 : Int), (r1 : Int), (r22 : Int), (r32 : Int), (r42 : Int)⟩ : Line)]) (l' := l4 ++ ([(⟨(r0 : Int), (r1 : Int), (r22 : Int), (r32 : Int), (r42 : Int)⟩ : Line)])) (vy := v139z) T23 rfl H rfl rfl rfl (ownSl (H.get (k := 0) rfl)) (ownLe _ (H.get (k := 0) rfl)) (rfl) (by first | omega | (simp only [List.length_nil] at *; omega)) ?_
        intro v142z w143z H
        replace H : St w w143z [cOwn (α := Line) 34 v139z ([(⟨(r0 : Int), (r1 : Int), (r22 : Int), (r32 : Int), (r42 : Int)⟩ : Line)]), cBlk b_s [v_s_bytes, I q17, I q27] 109, cOwn (α := Line) 34 v142z (l4 ++ ([(⟨(r0 : Int), (r1 : Int), (r22 : Int), (r32 : Int), (r42 : Int)⟩ : Line)])), cOwn (α := Int) 3 v_l l, cBlk b_2 [I r2, v_l4] 25, cBlk b_1 [I 0, .slice none 0 0] 25] R := H
        have hvc_q144z := Sl.cells (ownSl (H.get (k := 2) rfl))
        have hvo_q144z := Sl.oc (ownSl (H.get (k := 2) rfl))
        refine s_nil ⟨(H.pick [3, 5] (by decide) rfl), ?_⟩
        refine t_q rfl (fun w' H => x_fa (a := .pointer (some ⟨b_2, 0, none⟩)) (v := .pointer (some ⟨b_2, 1, none⟩)) rfl (fa_blk (o := 0) Fd25_1 Sz23)) ?_
        refine t_l rfl ?_
        refine t_st (k := 4) (b := b_2) (off := 1) (cs := [I r2, v_l4]) (vs := [v142z]) (cs' := [I r2, v142z]) (v := v142z) (L' := [cOwn (α := Line) 34 v139z ([(⟨(r0 : Int), (r1 : Int), (r22 : Int), (r32 : Int), (r42 : Int)⟩ : Line)]), cBlk b_s [v_s_bytes, I q17, I q27] 109, cOwn (α := Line) 34 v142z (l4 ++ ([(⟨(r0 : Int), (r1 : Int), (r22 : Int), (r32 : Int), (r42 : Int)⟩ : Line)])), cOwn (α := Int) 3 v_l l, cBlk b_2 [I r2, v142z] 25, cBlk b_1 [I 0, .slice none 0 0] 25]) H rfl rfl rfl Sz23 (Sl.cells (ownSl (H.get (k := 2) rfl))) rfl rfl (by simp only [List.all_cons, List.all_nil, Bool.true_and, Bool.and_true, Sl.oc (ownSl (H.get (k := 2) rfl))]; try rfl) rfl rfl ?_
        intro w145z H
        refine s_nil ⟨(H.pick [3, 5] (by decide) rfl), ?_⟩
        refine t_nil ?_
        refine W.region rfl ?_
        obtain ⟨sd146z, hM⟩ := M.e_grd hM
        simp only [Bool.and_eq_true, decide_eq_true_eq] at sd146z
        refine s_val (x_ari (a := (s8 : Int)) (b := 1) (r := (s8 : Int) + 1) rfl rfl rfl (by omega)) ?_
        refine s_val (x_mv (v := I ((s8 : Int) + 1)) rfl) ?_
        refine s_nil ?_
        exact ⟨m42z, lt43z, q17, q27, s8 + 1, l4 ++ ([(⟨(r0 : Int), (r1 : Int), (r22 : Int), (r32 : Int), (r42 : Int)⟩ : Line)]), v142z, _, upds_of _ _ ⟨rfl, rfl, rfl, rfl, rfl, rfl, trivial⟩, M.e_inl hM hN45z, (H.pick [2, 1, 3, 4, 5] (by decide) rfl)⟩
    ·replace hM := M.e_f hM c46z
     simp only [decide_eq_true_eq, decide_eq_false_iff_not, beq_iff_eq, bne_iff_ne, beq_eq_false_iff_ne, bne_eq_false_iff_eq, ne_eq, Decidable.not_not] at c46z
     refine W.exit ?_
     have hX147z := M.e_inr hM hN45z
     subst hX147z
     replace hM := hk38z
     try dsimp only at hM
     refine W.seq ?_
     refine W.region rfl ?_
     refine s_val (x_ld (p := .pointer (some ⟨b_2, 0, none⟩)) (v := .agg #[I r2, v_l4]) rfl (ldb_ag (ds := [I r2, v_l4]) Ag25 Sz25 (H.blk (k := 3) rfl) rfl rfl)) ?_
     refine s_val (x_mv (v := v_l) rfl) ?_
     refine t_st (k := 4) (b := b_1) (off := 0) (cs := [I 0, .slice none 0 0]) (vs := [I r2, v_l4]) (cs' := [I r2, v_l4]) (v := .agg #[I r2, v_l4]) (L' := [cOwn (α := Line) 34 v_l4 l4, cBlk b_s [v_s_bytes, I s6, I s7] 109, cOwn (α := Int) 3 v_l l, cBlk b_2 [I r2, v_l4] 25, cBlk b_1 [I r2, v_l4] 25]) H rfl rfl rfl Sz25 rfl rfl rfl (by simp only [List.all_cons, List.all_nil, Bool.true_and, Bool.and_true, Sl.oc (ownSl (H.get (k := 0) rfl))]; try rfl) rfl rfl ?_
     intro w148z H
     refine s_val (x_as (v := v_l) rfl) ?_
     refine s_nil ?_
     refine W.ret ?_
     have hb149z := (H.blk (k := 4) rfl)
     have hr_ := M.e_pure hM
     exact ⟨_, (resE_ofn (vs := [.agg #[I r2, v_l4], v_l]) rfl rfl (.cell (v := .agg #[I r2, v_l4]) rfl (run_loadVar_ag (ds := [I r2, v_l4]) Ag25 Sz25 hb149z rfl rfl) <| .tmp (v := v_l) rfl <| .nil)), ⟨r2, l4, l, s6, s7, v_l4, v_l, hr_, rfl, (H.pick [0, 2, 1] (by decide) rfl)⟩⟩

def m_nilometerkit_Copy_level_Line (l : List Line) : M (List Line) :=
  M.grd (decide ((([] : List Line).length + l.length) * 40 <= 140737488355328)) <|
  M.pure l
theorem nilometerkit_Copy_level_Line_ok {R : List Chunk} {C_l : Cells} {v_l : Value} (l : List Line) (hC_l : Reads R C_l) (hs_l : Sl C_l v_l l) {r : (List Line)} (hM : (m_nilometerkit_Copy_level_Line l).Ends r) (w : World) (H : St w w [] R) : Ret Try.prog 55 #[v_l] w fun v w' => ∃ (y0 : List Line) (u0 : Value), y0 = r /\ v = u0 /\ St w w' [cOwn (α := Line) 34 u0 y0] R := by
 refine ret_of_W Try.func55 rfl rfl rfl ?_
 refine W.seq ?_
 refine W.region rfl ?_
 refine s_val (x_as (v := .slice none 0 0) rfl) ?_
 refine s_nil ?_
 refine W.seq ?_
 refine W.region rfl ?_
 refine s_val (x_as (v := .slice none 0 0) rfl) ?_
 refine s_nil ?_
 refine W.seq ?_
 refine W.region rfl ?_
 refine s_val (x_mv (v := .slice none 0 0) rfl) ?_
 refine s_val (x_mv (v := v_l) rfl) ?_
 replace H : St w w [cOwn (α := Line) 34 (.slice none 0 0) ([])] R := H.nilOwn (α := Line) 34
 obtain ⟨sd1z, hM⟩ := M.e_grd hM
 simp only [Bool.and_eq_true, decide_eq_true_eq] at sd1z
 refine t_app (α := Line) (k := 0) (l := []) (l2 := l) (l' := l) (vy := v_l) T23 rfl H rfl rfl rfl hs_l (hC_l.at H) (List.nil_append _) (by first | omega | (simp only [List.length_nil] at *; omega)) ?_
 intro v2z w3z H
 replace H : St w w3z [cOwn (α := Line) 34 v2z l] R := H
 refine s_val (x_as (v := v2z) rfl) ?_
 refine s_nil ?_
 refine W.ret ?_
 have hr_ := M.e_pure hM
 exact ⟨_, resE_tmp rfl, ⟨l, v2z, hr_, rfl, H⟩⟩

def m_nilometerlaw01_CopyNet (n_Marks : Int) (n_Lines : List Line) : M (Int × (List Line)) :=
  M.bind (m_nilometerkit_Copy_level_Line n_Lines) fun r2 =>
  M.pure (n_Marks, r2)
theorem nilometerlaw01_CopyNet_ok {R : List Chunk} {C_n_Lines : Cells} {v_n_Lines : Value} (n_Marks : Int) (n_Lines : List Line) (hC_n_Lines : Reads R C_n_Lines) (hs_n_Lines : Sl C_n_Lines v_n_Lines n_Lines) {r : (Int × (List Line))} (hM : (m_nilometerlaw01_CopyNet n_Marks n_Lines).Ends r) (w : World) (H : St w w [] R) : Ret Try.prog 15 #[.agg #[I n_Marks, v_n_Lines]] w fun v w' => ∃ (y0 : Int) (y1 : List Line) (u0 : Value), (y0, y1) = r /\ v = .agg #[I y0, u0] /\ St w w' [cOwn (α := Line) 34 u0 y1] R := by
 refine ret_of_W Try.func15 rfl rfl rfl ?_
 refine W.seq ?_
 refine W.region rfl ?_
 refine t_box (v := .agg #[I n_Marks, v_n_Lines]) (cs := [I n_Marks, v_n_Lines]) H rfl rfl ?_
 intro b_1 w1z H
 refine t_alloc (cs := [I 0, .slice none 0 0]) H Al25 rfl ?_
 intro b_2 w2z H
 refine s_nil ?_
 refine W.seq ?_
 refine W.draw (fun W => St w W [cBlk b_1 [I n_Marks, v_n_Lines] 25] R) [(0, true), (1, true), (2, true), (3, true), (4, false), (5, true), (6, false)] mixed (by decide +kernel) rfl ?_
 intro w3z hx_
 replace H : St w w3z [cBlk b_2 [I 0, .slice none 0 0] 25, cBlk b_1 [I n_Marks, v_n_Lines] 25] R := H.ext hx_
 clear hx_
 refine ⟨(H.pick [1] (by decide) rfl), ?_⟩
 refine d_q rfl (fun w' H => x_fa (a := .pointer (some ⟨b_1, 0, none⟩)) (v := .pointer (some ⟨b_1, 0, none⟩)) rfl (fa_blk (o := 0) Fd25_0 Sz3)) ?_
 refine d_q rfl (fun w' H => x_ld (p := .pointer (some ⟨b_1, 0, none⟩)) (v := I n_Marks) rfl (ldb_sc Sc3 (H.blk (k := 0) rfl) rfl)) ?_
 refine d_q rfl (fun w' H => x_fa (a := .pointer (some ⟨b_1, 0, none⟩)) (v := .pointer (some ⟨b_1, 1, none⟩)) rfl (fa_blk (o := 0) Fd25_1 Sz23)) ?_
 refine d_q rfl (fun w' H => x_ld (p := .pointer (some ⟨b_1, 1, none⟩)) (v := v_n_Lines) rfl (ldb_sc Sc23 (H.blk (k := 0) rfl) rfl)) ?_
 refine d_l rfl ?_
 obtain ⟨r5z, hx4z, hM⟩ := M.e_bind hM
 refine s_call cf55 [v_n_Lines] rfl (nilometerkit_Copy_level_Line_ok n_Lines (hC_n_Lines.app _) hs_n_Lines hx4z _ (St.give (T := [cBlk b_2 [I 0, .slice none 0 0] 25, cBlk b_1 [I n_Marks, v_n_Lines] 25]) H rfl)) ?_
 rintro vq w6z ⟨r2, u0_3, hr7z, hvq, H2_⟩
 subst hr7z
 subst vq
 try dsimp only at hM
 replace H : St w w6z [cOwn (α := Line) 34 u0_3 r2, cBlk b_2 [I 0, .slice none 0 0] 25, cBlk b_1 [I n_Marks, v_n_Lines] 25] R := H.back H2_ rfl
 clear H2_
 have hvc_q8z := Sl.cells (ownSl (H.get (k := 0) rfl))
 have hvo_q8z := Sl.oc (ownSl (H.get (k := 0) rfl))
 refine s_nil ⟨(H.pick [2] (by decide) rfl), ?_⟩
 refine d_q rfl (fun w' H => x_bld (ps := [(0, I n_Marks), (1, u0_3)]) (zs := [I 0, .slice none 0 0]) (L' := [I n_Marks, u0_3]) rfl Try.underlying25 Al25 rfl (Bd25 Try.underlying25) (.cons (cs := [I n_Marks]) rfl rfl rfl rfl rfl <| .cons (cs := [u0_3]) hvc_q8z rfl rfl rfl rfl <| .nil)) ?_
 refine d_l rfl ?_
 refine t_st (k := 1) (b := b_2) (off := 0) (cs := [I 0, .slice none 0 0]) (vs := [I n_Marks, u0_3]) (cs' := [I n_Marks, u0_3]) (v := .agg #[I n_Marks, u0_3]) (L' := [cOwn (α := Line) 34 u0_3 r2, cBlk b_2 [I n_Marks, u0_3] 25, cBlk b_1 [I n_Marks, v_n_Lines] 25]) H rfl rfl rfl Sz25 rfl rfl rfl (by simp only [List.all_cons, List.all_nil, Bool.true_and, Bool.and_true, Sl.oc (ownSl (H.get (k := 0) rfl))]; try rfl) rfl rfl ?_
 intro w9z H
 refine s_nil ⟨(H.pick [2] (by decide) rfl), ?_⟩
 refine d_nil ?_
 refine W.ret ?_
 have hb10z := (H.blk (k := 1) rfl)
 have hr_ := M.e_pure hM
 exact ⟨_, (resE_of1 (v := .agg #[I n_Marks, u0_3]) rfl (.cell (v := .agg #[I n_Marks, u0_3]) rfl (run_loadVar_ag (ds := [I n_Marks, u0_3]) Ag25 Sz25 hb10z rfl rfl) <| .nil)), ⟨n_Marks, r2, u0_3, hr_, rfl, (H.pick [0] (by decide) rfl)⟩⟩

end Go.Proofs.Ytclhljenjphofaa
end
namespace Go.Nm
open Go
section
variable {P : Program} {ops : Array Oper} {md : Region.Mode} {C : World -> Prop} {z : Nat}
end
section
variable {P : Program} {all : List Oper} {C : World -> Prop} {z : Nat} {Q : Post} {r : List Nat} {σ : Env} {w : World}
end
end Go.Nm
section
set_option maxRecDepth 100000
set_option maxHeartbeats 16000000
namespace Go.Proofs.Ytclhljenjphofaa
open Go Go.Nm
end Go.Proofs.Ytclhljenjphofaa
end
namespace Go.Nm
open Go
structure Row13 where
  v : List Int
deriving Inhabited
theorem encI : ∀ l : List Int, encF (α := Int) l = l.map I
  | [] => rfl
  | x :: l => by
    have := encI l
    unfold encF at *
    rw [List.map_cons, List.flatten_cons, this]
    rfl
instance : Elt Row13 where
  rep _ cs x := cs = encF (α := Int) x.v /\ x.v.length = 13
  sz := 13
  agg := true
  sz_pos := by decide
  len := fun h => by rw [h.1, encI, List.length_map, h.2]
  mono := fun _ h => h
  one := fun h v hv => by
    rw [h.1] at hv
    exact List.all_eq_true.1 (encF_one _) v hv
end Go.Nm
namespace Go.Proofs.Ytclhljenjphofaa
open Go Go.Nm
end Go.Proofs.Ytclhljenjphofaa
section
set_option maxRecDepth 100000
set_option maxHeartbeats 16000000
namespace Go.Proofs.Ytclhljenjphofaa
open Go Go.Nm
end Go.Proofs.Ytclhljenjphofaa
end
section
set_option maxRecDepth 100000
set_option maxHeartbeats 16000000
namespace Go.Proofs.Ytclhljenjphofaa
open Go Go.Nm
end Go.Proofs.Ytclhljenjphofaa
end
section
set_option maxRecDepth 100000
set_option maxHeartbeats 16000000
namespace Go.Proofs.Ytclhljenjphofaa
open Go Go.Nm
def m_level_Highest_1_F (self_ : (Int × Int × Int × (List Line) × (List Int) × (List Leg)) -> M (List Leg)) : (Int × Int × Int × (List Line) × (List Int) × (List Leg)) -> M (List Leg) := fun (to_, k02, k120, k121, k122, k123) =>
  bif to_ == k02 then (
  M.pure ([]))
  else (
  M.grd (decide ((0 : Int) <= k02) && decide (k02 < (13 : Int))) <|
  M.grd (decide ((0 : Int) <= to_) && decide (to_ < (13 : Int))) <|
  M.bind (m_level_survey_start k120 k121 (k123.getD ((Int.toNat k02) * 13 + (Int.toNat to_)) default)) fun r2 =>
  M.bind (self_ (r2, k02, k120, k121, k122, k123)) fun r3 =>
  M.grd (decide ((r3.length + ([(k123.getD ((Int.toNat k02) * 13 + (Int.toNat to_)) default)]).length) * 16 <= 140737488355328)) <|
  M.pure (r3 ++ ([(k123.getD ((Int.toNat k02) * 13 + (Int.toNat to_)) default)])))
theorem m_level_Highest_1_mon : M.Mon m_level_Highest_1_F := by
  intro n f g h a
  obtain ⟨to_, k02, k120, k121, k122, k123⟩ := a
  simp only [m_level_Highest_1_F]
  repeat' (first | exact M.le_same _ _ | exact h _ | refine M.le_grd ?_ | refine M.le_if ?_ ?_ | refine M.le_bind ?_ (fun x => ?_) | refine M.le_opt ?_ | refine M.le_iter (fun x => ?_) _ | refine m_level_survey_legs_1_le (M.le_yl (fun s_ a_ => ?_)) _ _ _ _ | (rename_i x; cases x) | (rename_i x; obtain ⟨_, _⟩ := x))
def m_level_Highest_1 (to_ : Int) (k02 : Int) (k120 : Int) (k121 : List Line) (k122 : List Int) (k123 : List Leg) : M (List Leg) := M.fix m_level_Highest_1_F m_level_Highest_1_mon (to_, k02, k120, k121, k122, k123)
theorem level_Highest_1_okN (n_ : Nat) : ∀ {R : List Chunk} {b_k0 : Nat} {b_k1 : Nat} {b_k12 : Nat} {C_k121 : Cells} {v_k121 : Value} {b_k2 : Nat} (to_ : Int) (k02 : Int) (k120 : Int) (k121 : List Line) (k122 : List Int) (k123 : List Leg) (h_b_k0 : Has R (cBlk b_k0 [I k02] 3)) (hC_k121 : Reads R C_k121) (hs_k121 : Sl C_k121 v_k121 k121) (hl_k122 : k122.length = 169) (hl_k123 : k123.length = 169) (h_b_k12 : Has R (cBlk b_k12 (List.flatten [[I k120, v_k121], encF (α := Int) k122, encF (α := Leg) k123]) 120)) (h_b_k1 : Has R (cBlk b_k1 [.pointer (some ⟨b_k12, 0, none⟩)] 111)) (h_b_k2 : Has R (cBlk b_k2 [.func (.func 86) #[] #[.pointer (some ⟨b_k0, 0, none⟩), .pointer (some ⟨b_k1, 0, none⟩), .pointer (some ⟨b_k2, 0, none⟩)]] 146)) {r : (List Leg)} (hM : (M.fixN m_level_Highest_1_F n_ (to_, k02, k120, k121, k122, k123)).Ends r) (w : World) (H : St w w [] R), Ret Try.prog 86 #[I to_, .pointer (some ⟨b_k0, 0, none⟩), .pointer (some ⟨b_k1, 0, none⟩), .pointer (some ⟨b_k2, 0, none⟩)] w fun v w' => ∃ (y0 : List Leg) (u0 : Value), y0 = r /\ v = u0 /\ St w w' [cOwn (α := Leg) 91 u0 y0] R := by
  induction n_ with
  | zero => intro R b_k0 b_k1 b_k12 C_k121 v_k121 b_k2 to_ k02 k120 k121 k122 k123 h_b_k0 hC_k121 hs_k121 hl_k122 hl_k123 h_b_k12 h_b_k1 h_b_k2 r hM w H; exact (M.e_fail hM).elim
  | succ n_ ih =>
    intro R b_k0 b_k1 b_k12 C_k121 v_k121 b_k2 to_ k02 k120 k121 k122 k123 h_b_k0 hC_k121 hs_k121 hl_k122 hl_k123 h_b_k12 h_b_k1 h_b_k2 r hM w H
    refine ret_of_W Try.func86 rfl rfl rfl ?_
    refine W.seq ?_
    refine W.region rfl ?_
    refine s_val (x_as (v := .slice none 0 0) rfl) ?_
    refine s_nil ?_
    refine W.seq ?_
    refine W.seq ?_
    refine W.region rfl ?_
    refine s_val (x_mv (v := I to_) rfl) ?_
    refine s_val (x_ld (p := .pointer (some ⟨b_k0, 0, none⟩)) (v := I k02) rfl (ldb_sc Sc3 (h_b_k0.blk H) rfl)) ?_
    refine s_val (x_cmp (kd := .i64) (a := to_) (b := k02) (r := to_ == k02) rfl rfl rfl) ?_
    refine s_nil ?_
    refine W.cond (to_ == k02) rfl (fun c1z => ?_) (fun c1z => ?_)
    ·replace hM := M.e_t hM c1z
     simp only [decide_eq_true_eq, decide_eq_false_iff_not, beq_iff_eq, bne_iff_ne, beq_eq_false_iff_ne, bne_eq_false_iff_eq, ne_eq, Decidable.not_not] at c1z
     refine W.seq ?_
     refine W.region rfl ?_
     refine s_val (x_as (v := .slice none 0 0) rfl) ?_
     refine s_nil ?_
     refine W.ret ?_
     have hr_ := M.e_pure hM
     replace H : St w w [cOwn (α := Leg) 91 (.slice none 0 0) ([])] R := H.nilOwn (α := Leg) 91
     exact ⟨_, resE_tmp rfl, ⟨([]), (.slice none 0 0), hr_, rfl, H⟩⟩
    ·replace hM := M.e_f hM c1z
     simp only [decide_eq_true_eq, decide_eq_false_iff_not, beq_iff_eq, bne_iff_ne, beq_eq_false_iff_ne, bne_eq_false_iff_eq, ne_eq, Decidable.not_not] at c1z
     refine W.skip ?_
     refine W.seq ?_
     refine W.draw (fun W => St w W [] R) [(0, true), (1, true), (2, true), (3, true), (4, true), (5, true), (6, true), (7, true), (8, false), (9, false)] mixed (by decide +kernel) rfl ?_
     intro w2z hx_
     replace H : St w w2z [] R := H.ext hx_
     clear hx_
     refine ⟨(H.pick [] (by decide) rfl), ?_⟩
     refine d_q rfl (fun w' H => x_ld (p := .pointer (some ⟨b_k1, 0, none⟩)) (v := .pointer (some ⟨b_k12, 0, none⟩)) rfl (ldb_sc Sc111 (h_b_k1.blk H) rfl)) ?_
     refine d_q rfl (fun w' H => x_ld (p := .pointer (some ⟨b_k0, 0, none⟩)) (v := I k02) rfl (ldb_sc Sc3 (h_b_k0.blk H) rfl)) ?_
     refine d_q rfl (fun w' H => x_mv (v := I to_) rfl) ?_
     refine d_q rfl (fun w' H => x_nc (a := ⟨b_k12, 0, none⟩) rfl) ?_
     refine d_q rfl (fun w' H => x_fa (a := .pointer (some ⟨b_k12, 0, none⟩)) (v := .pointer (some ⟨b_k12, 171, none⟩)) rfl (fa_blk (o := 0) Fd120_2 Sz118)) ?_
     obtain ⟨sd3z, hM⟩ := M.e_grd hM
     simp only [Bool.and_eq_true, decide_eq_true_eq] at sd3z
     refine d_q rfl (fun w' H => x_ix (a := .pointer (some ⟨b_k12, 171, none⟩)) (b := I k02) (v := .pointer (some ⟨b_k12, 171 + Int.toNat k02 * 26, none⟩)) rfl rfl (run_indexS Try.underlying118 Sz117 (by omega) (by omega))) ?_
     obtain ⟨sd4z, hM⟩ := M.e_grd hM
     simp only [Bool.and_eq_true, decide_eq_true_eq] at sd4z
     refine d_q rfl (fun w' H => x_ix (a := .pointer (some ⟨b_k12, 171 + Int.toNat k02 * 26, none⟩)) (b := I to_) (v := .pointer (some ⟨b_k12, (171 + Int.toNat k02 * 26) + Int.toNat to_ * 2, none⟩)) rfl rfl (run_indexS Try.underlying117 Sz91 (by omega) (by omega))) ?_
     refine d_q rfl (fun w' H => x_ld (p := .pointer (some ⟨b_k12, (171 + Int.toNat k02 * 26) + Int.toNat to_ * 2, none⟩)) (v := .agg #[I ((k123.getD ((Int.toNat k02) * 13 + (Int.toNat to_)) default).line), B ((k123.getD ((Int.toNat k02) * 13 + (Int.toNat to_)) default).back)]) rfl (ldSA (α := Leg) (k := 2) (off := 171) (i := (Int.toNat k02) * 13 + (Int.toNat to_)) (sz := 2) default Ag91 Sz91 (h_b_k12.blk H) rfl (sgo2 hl_k122 rfl) rfl (by have hl_ := hl_k123; omega) (by omega) rfl)) ?_
     refine d_l rfl ?_
     refine t_alloc (cs := [I 0, B false]) H Al91 rfl ?_
     intro b_1 w5z H
     refine s_nil ⟨(H.pick [] (by decide) rfl), ?_⟩
     refine d_l rfl ?_
     refine t_st (k := 0) (b := b_1) (off := 0) (cs := [I 0, B false]) (vs := [I ((k123.getD ((Int.toNat k02) * 13 + (Int.toNat to_)) default).line), B ((k123.getD ((Int.toNat k02) * 13 + (Int.toNat to_)) default).back)]) (cs' := [I ((k123.getD ((Int.toNat k02) * 13 + (Int.toNat to_)) default).line), B ((k123.getD ((Int.toNat k02) * 13 + (Int.toNat to_)) default).back)]) (v := .agg #[I ((k123.getD ((Int.toNat k02) * 13 + (Int.toNat to_)) default).line), B ((k123.getD ((Int.toNat k02) * 13 + (Int.toNat to_)) default).back)]) (L' := [cBlk b_1 [I ((k123.getD ((Int.toNat k02) * 13 + (Int.toNat to_)) default).line), B ((k123.getD ((Int.toNat k02) * 13 + (Int.toNat to_)) default).back)] 91]) H rfl rfl rfl Sz91 rfl rfl rfl rfl rfl rfl ?_
     intro w6z H
     refine s_nil ⟨(H.pick [] (by decide) rfl), ?_⟩
     refine d_nil ?_
     refine W.seq ?_
     refine W.drawT (fun W => St w W [cBlk b_1 [I ((k123.getD ((Int.toNat k02) * 13 + (Int.toNat to_)) default).line), B ((k123.getD ((Int.toNat k02) * 13 + (Int.toNat to_)) default).back)] 91] R) (.q 0 (.q 1 (.q 2 (.q 5 (.l2 3 (.l2 4 (.l 6 (.l 7 (.q 8 .nil))) 6 (.l 4 (.l 7 (.q 8 .nil)))) 6 (.l 3 (.l 4 (.l 7 (.q 8 .nil))))))))) mixed (by decide +kernel) rfl ?_
     intro w7z hx_
     replace H : St w w7z [cBlk b_1 [I ((k123.getD ((Int.toNat k02) * 13 + (Int.toNat to_)) default).line), B ((k123.getD ((Int.toNat k02) * 13 + (Int.toNat to_)) default).back)] 91] R := H.ext hx_
     clear hx_
     refine ⟨(H.pick [0] (by decide) rfl), ?_⟩
     refine t_q rfl (fun w' H => x_ld (p := .pointer (some ⟨b_k2, 0, none⟩)) (v := .func (.func 86) #[] #[.pointer (some ⟨b_k0, 0, none⟩), .pointer (some ⟨b_k1, 0, none⟩), .pointer (some ⟨b_k2, 0, none⟩)]) rfl (ldb_sc Sc146 (h_b_k2.blk H) rfl)) ?_
     refine t_q rfl (fun w' H => x_ld (p := .pointer (some ⟨b_k1, 0, none⟩)) (v := .pointer (some ⟨b_k12, 0, none⟩)) rfl (ldb_sc Sc111 (h_b_k1.blk H) rfl)) ?_
     refine t_q rfl (fun w' H => x_ld (p := .pointer (some ⟨b_1, 0, none⟩)) (v := .agg #[I ((k123.getD ((Int.toNat k02) * 13 + (Int.toNat to_)) default).line), B ((k123.getD ((Int.toNat k02) * 13 + (Int.toNat to_)) default).back)]) rfl (ldb_ag (ds := [I ((k123.getD ((Int.toNat k02) * 13 + (Int.toNat to_)) default).line), B ((k123.getD ((Int.toNat k02) * 13 + (Int.toNat to_)) default).back)]) Ag91 Sz91 (H.blk (k := 0) rfl) rfl rfl)) ?_
     refine t_q rfl (fun w' H => x_ld (p := .pointer (some ⟨b_1, 0, none⟩)) (v := .agg #[I ((k123.getD ((Int.toNat k02) * 13 + (Int.toNat to_)) default).line), B ((k123.getD ((Int.toNat k02) * 13 + (Int.toNat to_)) default).back)]) rfl (ldb_ag (ds := [I ((k123.getD ((Int.toNat k02) * 13 + (Int.toNat to_)) default).line), B ((k123.getD ((Int.toNat k02) * 13 + (Int.toNat to_)) default).back)]) Ag91 Sz91 (H.blk (k := 0) rfl) rfl rfl)) ?_
     refine t_l2 rfl rfl ?_ ?_
     ·skip
      obtain ⟨r28z, hx27z, hM⟩ := M.e_bind hM
      refine s_call cf83 [.pointer (some ⟨b_k12, 0, none⟩), .agg #[I ((k123.getD ((Int.toNat k02) * 13 + (Int.toNat to_)) default).line), B ((k123.getD ((Int.toNat k02) * 13 + (Int.toNat to_)) default).back)]] rfl (level_survey_start_ok k120 k121 (k123.getD ((Int.toNat k02) * 13 + (Int.toNat to_)) default) (hC_k121.app _) hs_k121 (Fld.of (h_b_k12.app _) rfl) hx27z _ (St.give (T := [cBlk b_1 [I ((k123.getD ((Int.toNat k02) * 13 + (Int.toNat to_)) default).line), B ((k123.getD ((Int.toNat k02) * 13 + (Int.toNat to_)) default).back)] 91]) H rfl)) ?_
      rintro vq w29z ⟨r2, hr30z, hvq, H2_⟩
      subst hr30z
      subst vq
      try dsimp only at hM
      replace H : St w w29z [cBlk b_1 [I ((k123.getD ((Int.toNat k02) * 13 + (Int.toNat to_)) default).line), B ((k123.getD ((Int.toNat k02) * 13 + (Int.toNat to_)) default).back)] 91] R := H.back H2_ rfl
      clear H2_
      refine s_nil ⟨(H.pick [0] (by decide) rfl), ?_⟩
      refine t_l2 rfl rfl ?_ ?_
      ·skip
       obtain ⟨r47z, hx46z, hM⟩ := M.e_bind hM
       refine s_callv (f := 86) rfl cf86 [I r2] rfl (ih r2 k02 k120 k121 k122 k123 (h_b_k0.app _) (hC_k121.app _) hs_k121 hl_k122 hl_k123 (h_b_k12.app _) (h_b_k1.app _) (h_b_k2.app _) hx46z _ (St.give (T := [cBlk b_1 [I ((k123.getD ((Int.toNat k02) * 13 + (Int.toNat to_)) default).line), B ((k123.getD ((Int.toNat k02) * 13 + (Int.toNat to_)) default).back)] 91]) H rfl)) ?_
       rintro vq w48z ⟨r3, u0_2, hr49z, hvq, H2_⟩
       subst hr49z
       subst vq
       try dsimp only at hM
       replace H : St w w48z [cOwn (α := Leg) 91 u0_2 r3, cBlk b_1 [I ((k123.getD ((Int.toNat k02) * 13 + (Int.toNat to_)) default).line), B ((k123.getD ((Int.toNat k02) * 13 + (Int.toNat to_)) default).back)] 91] R := H.back H2_ rfl
       clear H2_
       have hvc_q50z := Sl.cells (ownSl (H.get (k := 0) rfl))
       have hvo_q50z := Sl.oc (ownSl (H.get (k := 0) rfl))
       refine s_nil ⟨(H.pick [1] (by decide) rfl), ?_⟩
       refine t_l rfl ?_
       refine t_bs (α := Leg) T88 [.agg #[I ((k123.getD ((Int.toNat k02) * 13 + (Int.toNat to_)) default).line), B ((k123.getD ((Int.toNat k02) * 13 + (Int.toNat to_)) default).back)]] [(k123.getD ((Int.toNat k02) * 13 + (Int.toNat to_)) default)] H rfl (.cons rfl (Flat.rep_enc _ (k123.getD ((Int.toNat k02) * 13 + (Int.toNat to_)) default)) <| .nil) rfl rfl rfl ?_
       intro v51z w52z H
       have hvc_q53z := Sl.cells (ownSl (H.get (k := 0) rfl))
       have hvo_q53z := Sl.oc (ownSl (H.get (k := 0) rfl))
       refine s_nil ⟨(H.pick [2] (by decide) rfl), ?_⟩
       refine t_l rfl ?_
       obtain ⟨sd54z, hM⟩ := M.e_grd hM
       simp only [Bool.and_eq_true, decide_eq_true_eq] at sd54z
       refine t_app (α := Leg) (k := 1) (l := r3) (l2 := [(k123.getD ((Int.toNat k02) * 13 + (Int.toNat to_)) default)]) (l' := r3 ++ ([(k123.getD ((Int.toNat k02) * 13 + (Int.toNat to_)) default)])) (vy := v51z) T88 rfl H rfl rfl rfl (ownSl (H.get (k := 0) rfl)) (ownLe _ (H.get (k := 0) rfl)) (rfl) (by first | omega | (simp only [List.length_nil] at *; omega)) ?_
       intro v55z w56z H
       replace H : St w w56z [cOwn (α := Leg) 91 v51z ([(k123.getD ((Int.toNat k02) * 13 + (Int.toNat to_)) default)]), cOwn (α := Leg) 91 v55z (r3 ++ ([(k123.getD ((Int.toNat k02) * 13 + (Int.toNat to_)) default)])), cBlk b_1 [I ((k123.getD ((Int.toNat k02) * 13 + (Int.toNat to_)) default).line), B ((k123.getD ((Int.toNat k02) * 13 + (Int.toNat to_)) default).back)] 91] R := H
       have hvc_q57z := Sl.cells (ownSl (H.get (k := 1) rfl))
       have hvo_q57z := Sl.oc (ownSl (H.get (k := 1) rfl))
       refine s_nil ⟨(H.pick [2] (by decide) rfl), ?_⟩
       refine t_q rfl (fun w' H => x_as (v := v55z) rfl) ?_
       refine t_nil ?_
       refine W.ret ?_
       have hr_ := M.e_pure hM
       exact ⟨_, resE_tmp rfl, ⟨(r3 ++ ([(k123.getD ((Int.toNat k02) * 13 + (Int.toNat to_)) default)])), v55z, hr_, rfl, (H.pick [1] (by decide) rfl)⟩⟩
      ·skip
       refine t_bs (α := Leg) T88 [.agg #[I ((k123.getD ((Int.toNat k02) * 13 + (Int.toNat to_)) default).line), B ((k123.getD ((Int.toNat k02) * 13 + (Int.toNat to_)) default).back)]] [(k123.getD ((Int.toNat k02) * 13 + (Int.toNat to_)) default)] H rfl (.cons rfl (Flat.rep_enc _ (k123.getD ((Int.toNat k02) * 13 + (Int.toNat to_)) default)) <| .nil) rfl rfl rfl ?_
       intro v58z w59z H
       have hvc_q60z := Sl.cells (ownSl (H.get (k := 0) rfl))
       have hvo_q60z := Sl.oc (ownSl (H.get (k := 0) rfl))
       refine s_nil ⟨(H.pick [1] (by decide) rfl), ?_⟩
       refine t_l rfl ?_
       obtain ⟨r62z, hx61z, hM⟩ := M.e_bind hM
       refine s_callv (f := 86) rfl cf86 [I r2] rfl (ih r2 k02 k120 k121 k122 k123 (h_b_k0.app _) (hC_k121.app _) hs_k121 hl_k122 hl_k123 (h_b_k12.app _) (h_b_k1.app _) (h_b_k2.app _) hx61z _ (St.give (T := [cOwn (α := Leg) 91 v58z ([(k123.getD ((Int.toNat k02) * 13 + (Int.toNat to_)) default)]), cBlk b_1 [I ((k123.getD ((Int.toNat k02) * 13 + (Int.toNat to_)) default).line), B ((k123.getD ((Int.toNat k02) * 13 + (Int.toNat to_)) default).back)] 91]) H rfl)) ?_
       rintro vq w63z ⟨r3, u0_2, hr64z, hvq, H2_⟩
       subst hr64z
       subst vq
       try dsimp only at hM
       replace H : St w w63z [cOwn (α := Leg) 91 u0_2 r3, cOwn (α := Leg) 91 v58z ([(k123.getD ((Int.toNat k02) * 13 + (Int.toNat to_)) default)]), cBlk b_1 [I ((k123.getD ((Int.toNat k02) * 13 + (Int.toNat to_)) default).line), B ((k123.getD ((Int.toNat k02) * 13 + (Int.toNat to_)) default).back)] 91] R := H.back H2_ rfl
       clear H2_
       have hvc_q65z := Sl.cells (ownSl (H.get (k := 0) rfl))
       have hvo_q65z := Sl.oc (ownSl (H.get (k := 0) rfl))
       refine s_nil ⟨(H.pick [2] (by decide) rfl), ?_⟩
       refine t_l rfl ?_
       obtain ⟨sd66z, hM⟩ := M.e_grd hM
       simp only [Bool.and_eq_true, decide_eq_true_eq] at sd66z
       refine t_app (α := Leg) (k := 0) (l := r3) (l2 := [(k123.getD ((Int.toNat k02) * 13 + (Int.toNat to_)) default)]) (l' := r3 ++ ([(k123.getD ((Int.toNat k02) * 13 + (Int.toNat to_)) default)])) (vy := v58z) T88 rfl H rfl rfl rfl (ownSl (H.get (k := 1) rfl)) (ownLe _ (H.get (k := 1) rfl)) (rfl) (by first | omega | (simp only [List.length_nil] at *; omega)) ?_
       intro v67z w68z H
       replace H : St w w68z [cOwn (α := Leg) 91 v67z (r3 ++ ([(k123.getD ((Int.toNat k02) * 13 + (Int.toNat to_)) default)])), cOwn (α := Leg) 91 v58z ([(k123.getD ((Int.toNat k02) * 13 + (Int.toNat to_)) default)]), cBlk b_1 [I ((k123.getD ((Int.toNat k02) * 13 + (Int.toNat to_)) default).line), B ((k123.getD ((Int.toNat k02) * 13 + (Int.toNat to_)) default).back)] 91] R := H
       have hvc_q69z := Sl.cells (ownSl (H.get (k := 0) rfl))
       have hvo_q69z := Sl.oc (ownSl (H.get (k := 0) rfl))
       refine s_nil ⟨(H.pick [2] (by decide) rfl), ?_⟩
       refine t_q rfl (fun w' H => x_as (v := v67z) rfl) ?_
       refine t_nil ?_
       refine W.ret ?_
       have hr_ := M.e_pure hM
       exact ⟨_, resE_tmp rfl, ⟨(r3 ++ ([(k123.getD ((Int.toNat k02) * 13 + (Int.toNat to_)) default)])), v67z, hr_, rfl, (H.pick [0] (by decide) rfl)⟩⟩
     ·skip
      refine t_bs (α := Leg) T88 [.agg #[I ((k123.getD ((Int.toNat k02) * 13 + (Int.toNat to_)) default).line), B ((k123.getD ((Int.toNat k02) * 13 + (Int.toNat to_)) default).back)]] [(k123.getD ((Int.toNat k02) * 13 + (Int.toNat to_)) default)] H rfl (.cons rfl (Flat.rep_enc _ (k123.getD ((Int.toNat k02) * 13 + (Int.toNat to_)) default)) <| .nil) rfl rfl rfl ?_
      intro v70z w71z H
      have hvc_q72z := Sl.cells (ownSl (H.get (k := 0) rfl))
      have hvo_q72z := Sl.oc (ownSl (H.get (k := 0) rfl))
      refine s_nil ⟨(H.pick [1] (by decide) rfl), ?_⟩
      refine t_l rfl ?_
      obtain ⟨r74z, hx73z, hM⟩ := M.e_bind hM
      refine s_call cf83 [.pointer (some ⟨b_k12, 0, none⟩), .agg #[I ((k123.getD ((Int.toNat k02) * 13 + (Int.toNat to_)) default).line), B ((k123.getD ((Int.toNat k02) * 13 + (Int.toNat to_)) default).back)]] rfl (level_survey_start_ok k120 k121 (k123.getD ((Int.toNat k02) * 13 + (Int.toNat to_)) default) (hC_k121.app _) hs_k121 (Fld.of (h_b_k12.app _) rfl) hx73z _ (St.give (T := [cOwn (α := Leg) 91 v70z ([(k123.getD ((Int.toNat k02) * 13 + (Int.toNat to_)) default)]), cBlk b_1 [I ((k123.getD ((Int.toNat k02) * 13 + (Int.toNat to_)) default).line), B ((k123.getD ((Int.toNat k02) * 13 + (Int.toNat to_)) default).back)] 91]) H rfl)) ?_
      rintro vq w75z ⟨r2, hr76z, hvq, H2_⟩
      subst hr76z
      subst vq
      try dsimp only at hM
      replace H : St w w75z [cOwn (α := Leg) 91 v70z ([(k123.getD ((Int.toNat k02) * 13 + (Int.toNat to_)) default)]), cBlk b_1 [I ((k123.getD ((Int.toNat k02) * 13 + (Int.toNat to_)) default).line), B ((k123.getD ((Int.toNat k02) * 13 + (Int.toNat to_)) default).back)] 91] R := H.back H2_ rfl
      clear H2_
      refine s_nil ⟨(H.pick [1] (by decide) rfl), ?_⟩
      refine t_l rfl ?_
      obtain ⟨r78z, hx77z, hM⟩ := M.e_bind hM
      refine s_callv (f := 86) rfl cf86 [I r2] rfl (ih r2 k02 k120 k121 k122 k123 (h_b_k0.app _) (hC_k121.app _) hs_k121 hl_k122 hl_k123 (h_b_k12.app _) (h_b_k1.app _) (h_b_k2.app _) hx77z _ (St.give (T := [cOwn (α := Leg) 91 v70z ([(k123.getD ((Int.toNat k02) * 13 + (Int.toNat to_)) default)]), cBlk b_1 [I ((k123.getD ((Int.toNat k02) * 13 + (Int.toNat to_)) default).line), B ((k123.getD ((Int.toNat k02) * 13 + (Int.toNat to_)) default).back)] 91]) H rfl)) ?_
      rintro vq w79z ⟨r3, u0_2, hr80z, hvq, H2_⟩
      subst hr80z
      subst vq
      try dsimp only at hM
      replace H : St w w79z [cOwn (α := Leg) 91 u0_2 r3, cOwn (α := Leg) 91 v70z ([(k123.getD ((Int.toNat k02) * 13 + (Int.toNat to_)) default)]), cBlk b_1 [I ((k123.getD ((Int.toNat k02) * 13 + (Int.toNat to_)) default).line), B ((k123.getD ((Int.toNat k02) * 13 + (Int.toNat to_)) default).back)] 91] R := H.back H2_ rfl
      clear H2_
      have hvc_q81z := Sl.cells (ownSl (H.get (k := 0) rfl))
      have hvo_q81z := Sl.oc (ownSl (H.get (k := 0) rfl))
      refine s_nil ⟨(H.pick [2] (by decide) rfl), ?_⟩
      refine t_l rfl ?_
      obtain ⟨sd82z, hM⟩ := M.e_grd hM
      simp only [Bool.and_eq_true, decide_eq_true_eq] at sd82z
      refine t_app (α := Leg) (k := 0) (l := r3) (l2 := [(k123.getD ((Int.toNat k02) * 13 + (Int.toNat to_)) default)]) (l' := r3 ++ ([(k123.getD ((Int.toNat k02) * 13 + (Int.toNat to_)) default)])) (vy := v70z) T88 rfl H rfl rfl rfl (ownSl (H.get (k := 1) rfl)) (ownLe _ (H.get (k := 1) rfl)) (rfl) (by first | omega | (simp only [List.length_nil] at *; omega)) ?_
      intro v83z w84z H
      replace H : St w w84z [cOwn (α := Leg) 91 v83z (r3 ++ ([(k123.getD ((Int.toNat k02) * 13 + (Int.toNat to_)) default)])), cOwn (α := Leg) 91 v70z ([(k123.getD ((Int.toNat k02) * 13 + (Int.toNat to_)) default)]), cBlk b_1 [I ((k123.getD ((Int.toNat k02) * 13 + (Int.toNat to_)) default).line), B ((k123.getD ((Int.toNat k02) * 13 + (Int.toNat to_)) default).back)] 91] R := H
      have hvc_q85z := Sl.cells (ownSl (H.get (k := 0) rfl))
      have hvo_q85z := Sl.oc (ownSl (H.get (k := 0) rfl))
      refine s_nil ⟨(H.pick [2] (by decide) rfl), ?_⟩
      refine t_q rfl (fun w' H => x_as (v := v83z) rfl) ?_
      refine t_nil ?_
      refine W.ret ?_
      have hr_ := M.e_pure hM
      exact ⟨_, resE_tmp rfl, ⟨(r3 ++ ([(k123.getD ((Int.toNat k02) * 13 + (Int.toNat to_)) default)])), v83z, hr_, rfl, (H.pick [0] (by decide) rfl)⟩⟩
theorem level_Highest_1_ok {R : List Chunk} {b_k0 : Nat} {b_k1 : Nat} {b_k12 : Nat} {C_k121 : Cells} {v_k121 : Value} {b_k2 : Nat} (to_ : Int) (k02 : Int) (k120 : Int) (k121 : List Line) (k122 : List Int) (k123 : List Leg) (h_b_k0 : Has R (cBlk b_k0 [I k02] 3)) (hC_k121 : Reads R C_k121) (hs_k121 : Sl C_k121 v_k121 k121) (hl_k122 : k122.length = 169) (hl_k123 : k123.length = 169) (h_b_k12 : Has R (cBlk b_k12 (List.flatten [[I k120, v_k121], encF (α := Int) k122, encF (α := Leg) k123]) 120)) (h_b_k1 : Has R (cBlk b_k1 [.pointer (some ⟨b_k12, 0, none⟩)] 111)) (h_b_k2 : Has R (cBlk b_k2 [.func (.func 86) #[] #[.pointer (some ⟨b_k0, 0, none⟩), .pointer (some ⟨b_k1, 0, none⟩), .pointer (some ⟨b_k2, 0, none⟩)]] 146)) {r : (List Leg)} (hM : (m_level_Highest_1 to_ k02 k120 k121 k122 k123).Ends r) (w : World) (H : St w w [] R) : Ret Try.prog 86 #[I to_, .pointer (some ⟨b_k0, 0, none⟩), .pointer (some ⟨b_k1, 0, none⟩), .pointer (some ⟨b_k2, 0, none⟩)] w fun v w' => ∃ (y0 : List Leg) (u0 : Value), y0 = r /\ v = u0 /\ St w w' [cOwn (α := Leg) 91 u0 y0] R := by
  obtain ⟨n_, hM⟩ := M.e_fix hM
  exact level_Highest_1_okN n_ to_ k02 k120 k121 k122 k123 h_b_k0 hC_k121 hs_k121 hl_k122 hl_k123 h_b_k12 h_b_k1 h_b_k2 hM w H

def m_level_Highest (n_Marks : Int) (n_Lines : List Line) (from_ : Int) (to_ : Int) : M ((List Leg) × Int) :=
  M.bind (m_level_asked n_Marks n_Lines from_ to_ false) fun x_ => match x_ with
  | (.inl r1) => (
  bif r1 != 0 then (
  M.pure (([]), r1))
  else (
  M.fail))
  | (.inr (r00, r02, r03, r12)) => (
  bif r12 != 0 then (
  M.pure (([]), r12))
  else (
  M.bind (m_level_Highest_1 to_ from_ r00 n_Lines r02 r03) fun r2 =>
  M.pure (r2, 0)))
theorem level_Highest_ok {R : List Chunk} {C_n_Lines : Cells} {v_n_Lines : Value} (n_Marks : Int) (n_Lines : List Line) (from_ : Int) (to_ : Int) (hC_n_Lines : Reads R C_n_Lines) (hs_n_Lines : Sl C_n_Lines v_n_Lines n_Lines) {r : ((List Leg) × Int)} (hM : (m_level_Highest n_Marks n_Lines from_ to_).Ends r) (w : World) (H : St w w [] R) : Ret Try.prog 48 #[.agg #[I n_Marks, v_n_Lines], I from_, I to_] w fun v w' => ∃ (y0 : List Leg) (y1 : Int) (u0 : Value), (y0, y1) = r /\ v = .tuple #[u0, I y1] /\ St w w' [cOwn (α := Leg) 91 u0 y0] R := by
 refine ret_of_W Try.func48 rfl rfl rfl ?_
 refine W.seq ?_
 refine W.region rfl ?_
 refine t_box (v := .agg #[I n_Marks, v_n_Lines]) (cs := [I n_Marks, v_n_Lines]) H rfl rfl ?_
 intro b_1 w1z H
 refine t_box (v := I from_) (cs := [I from_]) H rfl rfl ?_
 intro b_2 w2z H
 refine s_val (x_as (v := .slice none 0 0) rfl) ?_
 refine s_val (x_as (v := I 0) rfl) ?_
 refine s_nil ?_
 refine W.seq ?_
 refine W.region rfl ?_
 refine s_val (x_ld (p := .pointer (some ⟨b_1, 0, none⟩)) (v := .agg #[I n_Marks, v_n_Lines]) rfl (ldb_ag (ds := [I n_Marks, v_n_Lines]) Ag25 Sz25 (H.blk (k := 1) rfl) rfl rfl)) ?_
 refine s_val (x_ld (p := .pointer (some ⟨b_2, 0, none⟩)) (v := I from_) rfl (ldb_sc Sc3 (H.blk (k := 0) rfl) rfl)) ?_
 refine s_val (x_mv (v := I to_) rfl) ?_
 obtain ⟨r4z, hx3z, hM⟩ := M.e_bind hM
 refine s_call cf56 [.agg #[I n_Marks, v_n_Lines], I from_, I to_, B false] rfl (level_asked_ok n_Marks n_Lines from_ to_ false (hC_n_Lines.app _) hs_n_Lines hx3z _ (St.give (T := [cBlk b_2 [I from_] 3, cBlk b_1 [I n_Marks, v_n_Lines] 25]) H rfl)) ?_
 rintro vq w5z (⟨r1, hr6z, hvq, H2_⟩ | ⟨r00, r02, r03, r12, nb0_3, hr7z, hvq, H2_, hf8z, hf9z⟩)
 ·subst hr6z
  subst vq
  try dsimp only at hM
  replace H : St w w5z [cBlk b_2 [I from_] 3, cBlk b_1 [I n_Marks, v_n_Lines] 25] R := H.back H2_ rfl
  clear H2_
  refine s_val (x_mv (v := .tuple #[.pointer none, I r1]) rfl) ?_
  refine s_val (x_ext (vs := [.pointer none, I r1]) (v := .pointer none) rfl rfl) ?_
  refine s_val (x_ext (vs := [.pointer none, I r1]) (v := I r1) rfl rfl) ?_
  refine t_alloc (cs := [.pointer none]) H Al111 rfl ?_
  intro b_4 w10z H
  refine t_st (k := 0) (b := b_4) (off := 0) (cs := [.pointer none]) (vs := [.pointer none]) (cs' := [.pointer none]) (v := .pointer none) (L' := [cBlk b_4 [.pointer none] 111, cBlk b_2 [I from_] 3, cBlk b_1 [I n_Marks, v_n_Lines] 25]) H rfl rfl rfl Sz111 rfl rfl rfl rfl rfl rfl ?_
  intro w11z H
  refine s_val (x_as (v := I r1) rfl) ?_
  refine s_nil ?_
  refine W.seq ?_
  refine W.seq ?_
  refine W.region rfl ?_
  refine s_val (x_mv (v := I r1) rfl) ?_
  refine s_val (x_cmp (kd := .i64) (a := r1) (b := 0) (r := r1 != 0) rfl rfl rfl) ?_
  refine s_nil ?_
  refine W.cond (r1 != 0) rfl (fun c12z => ?_) (fun c12z => ?_)
  ·replace hM := M.e_t hM c12z
   simp only [decide_eq_true_eq, decide_eq_false_iff_not, beq_iff_eq, bne_iff_ne, beq_eq_false_iff_ne, bne_eq_false_iff_eq, ne_eq, Decidable.not_not] at c12z
   refine W.seq ?_
   refine W.region rfl ?_
   refine s_val (x_mv (v := I r1) rfl) ?_
   refine s_val (x_as (v := .slice none 0 0) rfl) ?_
   refine s_val (x_as (v := I r1) rfl) ?_
   refine s_nil ?_
   refine W.ret ?_
   have hr_ := M.e_pure hM
   replace H : St w w11z [cOwn (α := Leg) 91 (.slice none 0 0) ([]), cBlk b_4 [.pointer none] 111, cBlk b_2 [I from_] 3, cBlk b_1 [I n_Marks, v_n_Lines] 25] R := H.nilOwn (α := Leg) 91
   exact ⟨_, resE_tmp2 rfl, ⟨([]), r1, (.slice none 0 0), hr_, rfl, (H.pick [0] (by decide) rfl)⟩⟩
  ·replace hM := M.e_f hM c12z
   simp only [decide_eq_true_eq, decide_eq_false_iff_not, beq_iff_eq, bne_iff_ne, beq_eq_false_iff_ne, bne_eq_false_iff_eq, ne_eq, Decidable.not_not] at c12z
   refine W.skip ?_
   refine W.seq ?_
   refine W.region rfl ?_
   refine t_alloc (cs := [.nilFunc]) H Al146 rfl ?_
   intro b_5 w13z H
   refine s_nil ?_
   refine W.seq ?_
   refine W.region rfl ?_
   refine s_val (x_mf (fs := []) (cs := [.pointer (some ⟨b_2, 0, none⟩), .pointer (some ⟨b_4, 0, none⟩), .pointer (some ⟨b_5, 0, none⟩)]) rfl rfl) ?_
   refine t_st (k := 0) (b := b_5) (off := 0) (cs := [.nilFunc]) (vs := [.func (.func 86) #[] #[.pointer (some ⟨b_2, 0, none⟩), .pointer (some ⟨b_4, 0, none⟩), .pointer (some ⟨b_5, 0, none⟩)]]) (cs' := [.func (.func 86) #[] #[.pointer (some ⟨b_2, 0, none⟩), .pointer (some ⟨b_4, 0, none⟩), .pointer (some ⟨b_5, 0, none⟩)]]) (v := .func (.func 86) #[] #[.pointer (some ⟨b_2, 0, none⟩), .pointer (some ⟨b_4, 0, none⟩), .pointer (some ⟨b_5, 0, none⟩)]) (L' := [cBlk b_5 [.func (.func 86) #[] #[.pointer (some ⟨b_2, 0, none⟩), .pointer (some ⟨b_4, 0, none⟩), .pointer (some ⟨b_5, 0, none⟩)]] 146, cBlk b_4 [.pointer none] 111, cBlk b_2 [I from_] 3, cBlk b_1 [I n_Marks, v_n_Lines] 25]) H rfl rfl rfl Sz146 rfl rfl rfl rfl rfl rfl ?_
   intro w14z H
   refine s_nil ?_
   refine W.seq ?_
   refine W.region rfl ?_
   refine s_val (x_ld (p := .pointer (some ⟨b_5, 0, none⟩)) (v := .func (.func 86) #[] #[.pointer (some ⟨b_2, 0, none⟩), .pointer (some ⟨b_4, 0, none⟩), .pointer (some ⟨b_5, 0, none⟩)]) rfl (ldb_sc Sc146 (H.blk (k := 0) rfl) rfl)) ?_
   refine s_val (x_mv (v := I to_) rfl) ?_
   exact (M.e_fail hM).elim
 ·subst hr7z
  subst vq
  try dsimp only at hM
  replace H : St w w5z [cBlk nb0_3 (List.flatten [[I r00, v_n_Lines], encF (α := Int) r02, encF (α := Leg) r03]) 120, cBlk b_2 [I from_] 3, cBlk b_1 [I n_Marks, v_n_Lines] 25] R := H.back H2_ rfl
  clear H2_
  refine s_val (x_mv (v := .tuple #[.pointer (some ⟨nb0_3, 0, none⟩), I r12]) rfl) ?_
  refine s_val (x_ext (vs := [.pointer (some ⟨nb0_3, 0, none⟩), I r12]) (v := .pointer (some ⟨nb0_3, 0, none⟩)) rfl rfl) ?_
  refine s_val (x_ext (vs := [.pointer (some ⟨nb0_3, 0, none⟩), I r12]) (v := I r12) rfl rfl) ?_
  refine t_alloc (cs := [.pointer none]) H Al111 rfl ?_
  intro b_4 w15z H
  refine t_st (k := 0) (b := b_4) (off := 0) (cs := [.pointer none]) (vs := [.pointer (some ⟨nb0_3, 0, none⟩)]) (cs' := [.pointer (some ⟨nb0_3, 0, none⟩)]) (v := .pointer (some ⟨nb0_3, 0, none⟩)) (L' := [cBlk b_4 [.pointer (some ⟨nb0_3, 0, none⟩)] 111, cBlk nb0_3 (List.flatten [[I r00, v_n_Lines], encF (α := Int) r02, encF (α := Leg) r03]) 120, cBlk b_2 [I from_] 3, cBlk b_1 [I n_Marks, v_n_Lines] 25]) H rfl rfl rfl Sz111 rfl rfl rfl rfl rfl rfl ?_
  intro w16z H
  refine s_val (x_as (v := I r12) rfl) ?_
  refine s_nil ?_
  refine W.seq ?_
  refine W.seq ?_
  refine W.region rfl ?_
  refine s_val (x_mv (v := I r12) rfl) ?_
  refine s_val (x_cmp (kd := .i64) (a := r12) (b := 0) (r := r12 != 0) rfl rfl rfl) ?_
  refine s_nil ?_
  refine W.cond (r12 != 0) rfl (fun c17z => ?_) (fun c17z => ?_)
  ·replace hM := M.e_t hM c17z
   simp only [decide_eq_true_eq, decide_eq_false_iff_not, beq_iff_eq, bne_iff_ne, beq_eq_false_iff_ne, bne_eq_false_iff_eq, ne_eq, Decidable.not_not] at c17z
   refine W.seq ?_
   refine W.region rfl ?_
   refine s_val (x_mv (v := I r12) rfl) ?_
   refine s_val (x_as (v := .slice none 0 0) rfl) ?_
   refine s_val (x_as (v := I r12) rfl) ?_
   refine s_nil ?_
   refine W.ret ?_
   have hr_ := M.e_pure hM
   replace H : St w w16z [cOwn (α := Leg) 91 (.slice none 0 0) ([]), cBlk b_4 [.pointer (some ⟨nb0_3, 0, none⟩)] 111, cBlk nb0_3 (List.flatten [[I r00, v_n_Lines], encF (α := Int) r02, encF (α := Leg) r03]) 120, cBlk b_2 [I from_] 3, cBlk b_1 [I n_Marks, v_n_Lines] 25] R := H.nilOwn (α := Leg) 91
   exact ⟨_, resE_tmp2 rfl, ⟨([]), r12, (.slice none 0 0), hr_, rfl, (H.pick [0] (by decide) rfl)⟩⟩
  ·replace hM := M.e_f hM c17z
   simp only [decide_eq_true_eq, decide_eq_false_iff_not, beq_iff_eq, bne_iff_ne, beq_eq_false_iff_ne, bne_eq_false_iff_eq, ne_eq, Decidable.not_not] at c17z
   refine W.skip ?_
   refine W.seq ?_
   refine W.region rfl ?_
   refine t_alloc (cs := [.nilFunc]) H Al146 rfl ?_
   intro b_5 w18z H
   refine s_nil ?_
   refine W.seq ?_
   refine W.region rfl ?_
   refine s_val (x_mf (fs := []) (cs := [.pointer (some ⟨b_2, 0, none⟩), .pointer (some ⟨b_4, 0, none⟩), .pointer (some ⟨b_5, 0, none⟩)]) rfl rfl) ?_
   refine t_st (k := 0) (b := b_5) (off := 0) (cs := [.nilFunc]) (vs := [.func (.func 86) #[] #[.pointer (some ⟨b_2, 0, none⟩), .pointer (some ⟨b_4, 0, none⟩), .pointer (some ⟨b_5, 0, none⟩)]]) (cs' := [.func (.func 86) #[] #[.pointer (some ⟨b_2, 0, none⟩), .pointer (some ⟨b_4, 0, none⟩), .pointer (some ⟨b_5, 0, none⟩)]]) (v := .func (.func 86) #[] #[.pointer (some ⟨b_2, 0, none⟩), .pointer (some ⟨b_4, 0, none⟩), .pointer (some ⟨b_5, 0, none⟩)]) (L' := [cBlk b_5 [.func (.func 86) #[] #[.pointer (some ⟨b_2, 0, none⟩), .pointer (some ⟨b_4, 0, none⟩), .pointer (some ⟨b_5, 0, none⟩)]] 146, cBlk b_4 [.pointer (some ⟨nb0_3, 0, none⟩)] 111, cBlk nb0_3 (List.flatten [[I r00, v_n_Lines], encF (α := Int) r02, encF (α := Leg) r03]) 120, cBlk b_2 [I from_] 3, cBlk b_1 [I n_Marks, v_n_Lines] 25]) H rfl rfl rfl Sz146 rfl rfl rfl rfl rfl rfl ?_
   intro w19z H
   refine s_nil ?_
   refine W.seq ?_
   refine W.region rfl ?_
   refine s_val (x_ld (p := .pointer (some ⟨b_5, 0, none⟩)) (v := .func (.func 86) #[] #[.pointer (some ⟨b_2, 0, none⟩), .pointer (some ⟨b_4, 0, none⟩), .pointer (some ⟨b_5, 0, none⟩)]) rfl (ldb_sc Sc146 (H.blk (k := 0) rfl) rfl)) ?_
   refine s_val (x_mv (v := I to_) rfl) ?_
   obtain ⟨r21z, hx20z, hM⟩ := M.e_bind hM
   refine s_callv (f := 86) rfl cf86 [I to_] rfl (level_Highest_1_ok to_ from_ r00 n_Lines r02 r03 (Has.here (k := 3) rfl) (hC_n_Lines.app _) hs_n_Lines hf8z hf9z (Has.here (k := 2) rfl) (Has.here (k := 1) rfl) (Has.here (k := 0) rfl) hx20z _ (St.give (T := [cBlk b_5 [.func (.func 86) #[] #[.pointer (some ⟨b_2, 0, none⟩), .pointer (some ⟨b_4, 0, none⟩), .pointer (some ⟨b_5, 0, none⟩)]] 146, cBlk b_4 [.pointer (some ⟨nb0_3, 0, none⟩)] 111, cBlk nb0_3 (List.flatten [[I r00, v_n_Lines], encF (α := Int) r02, encF (α := Leg) r03]) 120, cBlk b_2 [I from_] 3, cBlk b_1 [I n_Marks, v_n_Lines] 25]) H rfl)) ?_
   rintro vq w22z ⟨r2, u0_6, hr23z, hvq, H2_⟩
   subst hr23z
   subst vq
   try dsimp only at hM
   replace H : St w w22z [cOwn (α := Leg) 91 u0_6 r2, cBlk b_5 [.func (.func 86) #[] #[.pointer (some ⟨b_2, 0, none⟩), .pointer (some ⟨b_4, 0, none⟩), .pointer (some ⟨b_5, 0, none⟩)]] 146, cBlk b_4 [.pointer (some ⟨nb0_3, 0, none⟩)] 111, cBlk nb0_3 (List.flatten [[I r00, v_n_Lines], encF (α := Int) r02, encF (α := Leg) r03]) 120, cBlk b_2 [I from_] 3, cBlk b_1 [I n_Marks, v_n_Lines] 25] R := H.back H2_ rfl
   clear H2_
   refine s_val (x_as (v := u0_6) rfl) ?_
   refine s_val (x_as (v := I 0) rfl) ?_
   refine s_nil ?_
   refine W.ret ?_
   have hr_ := M.e_pure hM
   exact ⟨_, resE_tmp2 rfl, ⟨r2, 0, u0_6, hr_, rfl, (H.pick [0] (by decide) rfl)⟩⟩

def m_slices_Reverse_level_Leg_b0 : ((List Leg) × Nat × Int) -> M (((List Leg) × Nat × Int) ⊕ (List Leg)) := fun (l, i, j) =>
  bif decide ((i : Int) < j) then (
  M.grd (decide ((0 : Int) <= j) && decide (j < (l.length : Int))) <|
  M.grd (decide ((i : Int) < (l.length : Int))) <|
  M.grd (decide ((0 : Int) <= j) && decide (j < ((l.set i (l.getD (Int.toNat j) default)).length : Int))) <|
  M.grd (decide ((-9223372036854775808 : Int) <= ((i : Int) + 1)) && decide (((i : Int) + 1) <= (9223372036854775807 : Int))) <|
  M.grd (decide ((-9223372036854775808 : Int) <= (j - 1)) && decide ((j - 1) <= (9223372036854775807 : Int))) <|
  M.pure (.inl ((l.set i (l.getD (Int.toNat j) default)).set (Int.toNat j) (l.getD i default), i + 1, j - 1)))
  else (
  M.pure (.inr l))
def m_slices_Reverse_level_Leg (s : List Leg) : M (List Leg) :=
  M.bind (M.iter (m_slices_Reverse_level_Leg_b0) (s, 0, (s.length : Int) - 1)) fun l2 =>
  M.pure l2
theorem slices_Reverse_level_Leg_ok {R : List Chunk} {v_s : Value} (s : List Leg)  {r : (List Leg)} (hM : (m_slices_Reverse_level_Leg s).Ends r) (w : World) (H : St w w [cOwn (α := Leg) 91 v_s s] R) : Ret Try.prog 100 #[v_s] w fun v w' => ∃ (y0 : List Leg), y0 = r /\ v = .tuple #[] /\ St w w' [cOwn (α := Leg) 91 v_s y0] R := by
 refine ret_of_W Try.func100 rfl rfl rfl ?_
 refine W.seq ?_
 refine W.region rfl ?_
 refine s_val (x_mv (v := v_s) rfl) ?_
 have hl1z := ((ownSl (H.get (k := 0) rfl))).len_le
 refine s_val (x_lenS T88.und rfl (ownSl (H.get (k := 0) rfl))) ?_
 refine s_val (x_ari (a := (s.length : Int)) (b := 1) (r := (s.length : Int) - 1) rfl rfl rfl (by omega)) ?_
 refine s_val (x_as (v := I 0) rfl) ?_
 refine s_val (x_as (v := I ((s.length : Int) - 1)) rfl) ?_
 refine s_nil ?_
 refine W.block ?_
 obtain ⟨ex2z, hi3z, hk4z⟩ := M.e_bind hM
 obtain ⟨m0_, hi3z⟩ := M.e_iter hi3z
 refine W.loop (fun m σ W => ∃ (l : List Leg) (i : Nat) (j : Int) (ρ : Env), σ = upds ρ [(0, v_s), (2, I (i : Int)), (3, I j)] /\ M.iterN (m_slices_Reverse_level_Leg_b0) m (l, i, j) = some ex2z /\ St w W [cOwn (α := Leg) 91 v_s l] R) ?_ ?_
 ·exact ⟨_, s, 0, (s.length : Int) - 1, _, upds_of _ _ ⟨rfl, rfl, rfl, trivial⟩, hi3z, H⟩
 ·rintro m7z σ w5z ⟨l, i, j, ρ, rfl, hI6z, H⟩
  obtain ⟨m8z, lt9z, x10z, hM, hN11z⟩ := M.e_iterN hI6z
  simp only [m_slices_Reverse_level_Leg_b0] at hM
  clear hI6z
  refine W.seq ?_
  refine W.seq ?_
  refine W.region rfl ?_
  refine s_val (x_mv (v := I (i : Int)) rfl) ?_
  refine s_val (x_mv (v := I j) rfl) ?_
  refine s_val (x_cmp (kd := .i64) (a := (i : Int)) (b := j) (r := decide ((i : Int) < j)) rfl rfl rfl) ?_
  refine s_nil ?_
  refine W.cond (decide ((i : Int) < j)) rfl (fun c12z => ?_) (fun c12z => ?_)
  ·replace hM := M.e_t hM c12z
   simp only [decide_eq_true_eq, decide_eq_false_iff_not, beq_iff_eq, bne_iff_ne, beq_eq_false_iff_ne, bne_eq_false_iff_eq, ne_eq, Decidable.not_not] at c12z
   refine W.skip ?_
   refine W.seq ?_
   refine W.block ?_
   refine W.drawT (fun W => St w W [] R) (.q 0 (.q 1 (.q 2 (.q 3 (.q 4 (.q 5 (.q 8 (.q 9 (.l2 6 (.l2 7 (.l 10 (.l 11 (.l 12 (.l 13 (.l 14 (.l 15 .nil)))))) 10 (.l2 7 (.l 11 (.l 12 (.l 13 (.l 14 (.l 15 .nil))))) 11 (.l 7 (.l 12 (.l 13 (.l 14 (.l 15 .nil))))))) 10 (.l2 6 (.l2 7 (.l 11 (.l 12 (.l 13 (.l 14 (.l 15 .nil))))) 11 (.l 7 (.l 12 (.l 13 (.l 14 (.l 15 .nil)))))) 11 (.l 6 (.l 7 (.l 12 (.l 13 (.l 14 (.l 15 .nil)))))))))))))))) mixed (by decide +kernel) rfl ?_
   intro w13z hx_
   replace H : St w w13z [cOwn (α := Leg) 91 v_s l] R := H.ext hx_
   clear hx_
   refine ⟨(H.pick [] (by decide) rfl), ?_⟩
   refine t_q rfl (fun w' H => x_mv (v := v_s) rfl) ?_
   refine t_q rfl (fun w' H => x_mv (v := I (i : Int)) rfl) ?_
   refine t_q rfl (fun w' H => x_mv (v := v_s) rfl) ?_
   refine t_q rfl (fun w' H => x_mv (v := I j) rfl) ?_
   refine t_q rfl (fun w' H => x_mv (v := v_s) rfl) ?_
   refine t_q rfl (fun w' H => x_mv (v := I j) rfl) ?_
   refine t_q rfl (fun w' H => x_mv (v := v_s) rfl) ?_
   refine t_q rfl (fun w' H => x_mv (v := I (i : Int)) rfl) ?_
   obtain ⟨sd14z, hM⟩ := M.e_grd hM
   simp only [Bool.and_eq_true, decide_eq_true_eq] at sd14z
   obtain ⟨sd15z, hM⟩ := M.e_grd hM
   simp only [Bool.and_eq_true, decide_eq_true_eq] at sd15z
   obtain ⟨sd17z, hM⟩ := M.e_grd hM
   simp only [Bool.and_eq_true, decide_eq_true_eq] at sd17z
   refine t_l2 rfl rfl ?_ ?_
   ·skip
    refine s_val (x_ix (a := v_s) (b := I j) (v := vat v_s 2 (Int.toNat j)) rfl rfl (Sl.ix (α := Leg) T88.und T88.size (ownSl (H.get (k := 0) rfl)) (by omega) (by omega))) ?_
    have hvc_q19z := Sl.cells (ownSl (H.get (k := 0) rfl))
    have hvo_q19z := Sl.oc (ownSl (H.get (k := 0) rfl))
    refine s_nil ⟨(H.pick [] (by decide) rfl), ?_⟩
    refine t_l2 rfl rfl ?_ ?_
    ·skip
     refine s_val (x_ld (p := vat v_s 2 (Int.toNat j)) (v := .agg #[I ((l.getD (Int.toNat j) default).line), B ((l.getD (Int.toNat j) default).back)]) rfl (ld_ag Ag91 Sz91 (At.mono (Leg_atA (ownSl (H.get (k := 0) rfl)) (i := j) (by omega) (by omega)) (ownLe _ (H.get (k := 0) rfl))))) ?_
     refine s_nil ⟨(H.pick [] (by decide) rfl), ?_⟩
     refine t_l rfl ?_
     refine s_val (x_ix (a := v_s) (b := I (i : Int)) (v := vat v_s 2 (Int.toNat (i : Int))) rfl rfl (Sl.ix (α := Leg) T88.und T88.size (ownSl (H.get (k := 0) rfl)) (by omega) (by omega))) ?_
     refine s_nil ⟨(H.pick [] (by decide) rfl), ?_⟩
     refine t_l rfl ?_
     refine s_val (x_ld (p := vat v_s 2 (Int.toNat (i : Int))) (v := .agg #[I ((l.getD i default).line), B ((l.getD i default).back)]) rfl (ld_ag Ag91 Sz91 (At.mono (Leg_atA (ownSl (H.get (k := 0) rfl)) (i := (i : Int)) (by omega) (by omega)) (ownLe _ (H.get (k := 0) rfl))))) ?_
     refine s_nil ⟨(H.pick [] (by decide) rfl), ?_⟩
     refine t_l rfl ?_
     refine s_val (x_ix (a := v_s) (b := I (i : Int)) (v := vat v_s 2 (Int.toNat (i : Int))) rfl rfl (Sl.ix (α := Leg) T88.und T88.size (ownSl (H.get (k := 0) rfl)) (by omega) (by omega))) ?_
     refine s_nil ⟨(H.pick [] (by decide) rfl), ?_⟩
     refine t_l rfl ?_
     refine t_ost (k := 0) (i := (i : Int)) (l := l) (l' := l.set i (l.getD (Int.toNat j) default)) (val := .agg #[I ((l.getD (Int.toNat j) default).line), B ((l.getD (Int.toNat j) default).back)]) (L' := [cOwn (α := Leg) 91 v_s (l.set i (l.getD (Int.toNat j) default))]) H rfl Sz91 (by omega) (by omega) (l.getD (Int.toNat j) default) rfl rfl rfl rfl rfl ?_
     intro w20z H
     refine s_nil ⟨(H.pick [] (by decide) rfl), ?_⟩
     refine t_l rfl ?_
     refine s_val (x_ix (a := v_s) (b := I j) (v := vat v_s 2 (Int.toNat j)) rfl rfl (Sl.ix (α := Leg) T88.und T88.size (ownSl (H.get (k := 0) rfl)) (by omega) (by omega))) ?_
     refine s_nil ⟨(H.pick [] (by decide) rfl), ?_⟩
     refine t_l rfl ?_
     refine t_ost (k := 0) (i := j) (l := l.set i (l.getD (Int.toNat j) default)) (l' := (l.set i (l.getD (Int.toNat j) default)).set (Int.toNat j) (l.getD i default)) (val := .agg #[I ((l.getD i default).line), B ((l.getD i default).back)]) (L' := [cOwn (α := Leg) 91 v_s ((l.set i (l.getD (Int.toNat j) default)).set (Int.toNat j) (l.getD i default))]) H rfl Sz91 (by omega) (by omega) (l.getD i default) rfl rfl rfl rfl rfl ?_
     intro w21z H
     refine s_nil ⟨(H.pick [] (by decide) rfl), ?_⟩
     refine t_nil ?_
     refine W.region rfl ?_
     refine s_val (x_mv (v := I (i : Int)) rfl) ?_
     obtain ⟨sd22z, hM⟩ := M.e_grd hM
     simp only [Bool.and_eq_true, decide_eq_true_eq] at sd22z
     refine s_val (x_ari (a := (i : Int)) (b := 1) (r := (i : Int) + 1) rfl rfl rfl (by omega)) ?_
     refine s_val (x_mv (v := I j) rfl) ?_
     obtain ⟨sd23z, hM⟩ := M.e_grd hM
     simp only [Bool.and_eq_true, decide_eq_true_eq] at sd23z
     refine s_val (x_ari (a := j) (b := 1) (r := j - 1) rfl rfl rfl (by omega)) ?_
     refine s_val (x_as (v := I ((i : Int) + 1)) rfl) ?_
     refine s_val (x_as (v := I (j - 1)) rfl) ?_
     refine s_nil ?_
     exact ⟨m8z, lt9z, (l.set i (l.getD (Int.toNat j) default)).set (Int.toNat j) (l.getD i default), i + 1, j - 1, _, upds_of _ _ ⟨rfl, rfl, rfl, trivial⟩, M.e_inl hM hN11z, H⟩
    ·skip
     refine s_val (x_ix (a := v_s) (b := I (i : Int)) (v := vat v_s 2 (Int.toNat (i : Int))) rfl rfl (Sl.ix (α := Leg) T88.und T88.size (ownSl (H.get (k := 0) rfl)) (by omega) (by omega))) ?_
     refine s_nil ⟨(H.pick [] (by decide) rfl), ?_⟩
     refine t_l2 rfl rfl ?_ ?_
     ·skip
      refine s_val (x_ld (p := vat v_s 2 (Int.toNat j)) (v := .agg #[I ((l.getD (Int.toNat j) default).line), B ((l.getD (Int.toNat j) default).back)]) rfl (ld_ag Ag91 Sz91 (At.mono (Leg_atA (ownSl (H.get (k := 0) rfl)) (i := j) (by omega) (by omega)) (ownLe _ (H.get (k := 0) rfl))))) ?_
      refine s_nil ⟨(H.pick [] (by decide) rfl), ?_⟩
      refine t_l rfl ?_
      refine s_val (x_ld (p := vat v_s 2 (Int.toNat (i : Int))) (v := .agg #[I ((l.getD i default).line), B ((l.getD i default).back)]) rfl (ld_ag Ag91 Sz91 (At.mono (Leg_atA (ownSl (H.get (k := 0) rfl)) (i := (i : Int)) (by omega) (by omega)) (ownLe _ (H.get (k := 0) rfl))))) ?_
      refine s_nil ⟨(H.pick [] (by decide) rfl), ?_⟩
      refine t_l rfl ?_
      refine s_val (x_ix (a := v_s) (b := I (i : Int)) (v := vat v_s 2 (Int.toNat (i : Int))) rfl rfl (Sl.ix (α := Leg) T88.und T88.size (ownSl (H.get (k := 0) rfl)) (by omega) (by omega))) ?_
      refine s_nil ⟨(H.pick [] (by decide) rfl), ?_⟩
      refine t_l rfl ?_
      refine t_ost (k := 0) (i := (i : Int)) (l := l) (l' := l.set i (l.getD (Int.toNat j) default)) (val := .agg #[I ((l.getD (Int.toNat j) default).line), B ((l.getD (Int.toNat j) default).back)]) (L' := [cOwn (α := Leg) 91 v_s (l.set i (l.getD (Int.toNat j) default))]) H rfl Sz91 (by omega) (by omega) (l.getD (Int.toNat j) default) rfl rfl rfl rfl rfl ?_
      intro w24z H
      refine s_nil ⟨(H.pick [] (by decide) rfl), ?_⟩
      refine t_l rfl ?_
      refine s_val (x_ix (a := v_s) (b := I j) (v := vat v_s 2 (Int.toNat j)) rfl rfl (Sl.ix (α := Leg) T88.und T88.size (ownSl (H.get (k := 0) rfl)) (by omega) (by omega))) ?_
      refine s_nil ⟨(H.pick [] (by decide) rfl), ?_⟩
      refine t_l rfl ?_
      refine t_ost (k := 0) (i := j) (l := l.set i (l.getD (Int.toNat j) default)) (l' := (l.set i (l.getD (Int.toNat j) default)).set (Int.toNat j) (l.getD i default)) (val := .agg #[I ((l.getD i default).line), B ((l.getD i default).back)]) (L' := [cOwn (α := Leg) 91 v_s ((l.set i (l.getD (Int.toNat j) default)).set (Int.toNat j) (l.getD i default))]) H rfl Sz91 (by omega) (by omega) (l.getD i default) rfl rfl rfl rfl rfl ?_
      intro w25z H
      refine s_nil ⟨(H.pick [] (by decide) rfl), ?_⟩
      refine t_nil ?_
      refine W.region rfl ?_
      refine s_val (x_mv (v := I (i : Int)) rfl) ?_
      obtain ⟨sd26z, hM⟩ := M.e_grd hM
      simp only [Bool.and_eq_true, decide_eq_true_eq] at sd26z
      refine s_val (x_ari (a := (i : Int)) (b := 1) (r := (i : Int) + 1) rfl rfl rfl (by omega)) ?_
      refine s_val (x_mv (v := I j) rfl) ?_
      obtain ⟨sd27z, hM⟩ := M.e_grd hM
      simp only [Bool.and_eq_true, decide_eq_true_eq] at sd27z
      refine s_val (x_ari (a := j) (b := 1) (r := j - 1) rfl rfl rfl (by omega)) ?_
      refine s_val (x_as (v := I ((i : Int) + 1)) rfl) ?_
      refine s_val (x_as (v := I (j - 1)) rfl) ?_
      refine s_nil ?_
      exact ⟨m8z, lt9z, (l.set i (l.getD (Int.toNat j) default)).set (Int.toNat j) (l.getD i default), i + 1, j - 1, _, upds_of _ _ ⟨rfl, rfl, rfl, trivial⟩, M.e_inl hM hN11z, H⟩
     ·skip
      refine s_val (x_ld (p := vat v_s 2 (Int.toNat (i : Int))) (v := .agg #[I ((l.getD i default).line), B ((l.getD i default).back)]) rfl (ld_ag Ag91 Sz91 (At.mono (Leg_atA (ownSl (H.get (k := 0) rfl)) (i := (i : Int)) (by omega) (by omega)) (ownLe _ (H.get (k := 0) rfl))))) ?_
      refine s_nil ⟨(H.pick [] (by decide) rfl), ?_⟩
      refine t_l rfl ?_
      refine s_val (x_ld (p := vat v_s 2 (Int.toNat j)) (v := .agg #[I ((l.getD (Int.toNat j) default).line), B ((l.getD (Int.toNat j) default).back)]) rfl (ld_ag Ag91 Sz91 (At.mono (Leg_atA (ownSl (H.get (k := 0) rfl)) (i := j) (by omega) (by omega)) (ownLe _ (H.get (k := 0) rfl))))) ?_
      refine s_nil ⟨(H.pick [] (by decide) rfl), ?_⟩
      refine t_l rfl ?_
      refine s_val (x_ix (a := v_s) (b := I (i : Int)) (v := vat v_s 2 (Int.toNat (i : Int))) rfl rfl (Sl.ix (α := Leg) T88.und T88.size (ownSl (H.get (k := 0) rfl)) (by omega) (by omega))) ?_
      refine s_nil ⟨(H.pick [] (by decide) rfl), ?_⟩
      refine t_l rfl ?_
      refine t_ost (k := 0) (i := (i : Int)) (l := l) (l' := l.set i (l.getD (Int.toNat j) default)) (val := .agg #[I ((l.getD (Int.toNat j) default).line), B ((l.getD (Int.toNat j) default).back)]) (L' := [cOwn (α := Leg) 91 v_s (l.set i (l.getD (Int.toNat j) default))]) H rfl Sz91 (by omega) (by omega) (l.getD (Int.toNat j) default) rfl rfl rfl rfl rfl ?_
      intro w28z H
      refine s_nil ⟨(H.pick [] (by decide) rfl), ?_⟩
      refine t_l rfl ?_
      refine s_val (x_ix (a := v_s) (b := I j) (v := vat v_s 2 (Int.toNat j)) rfl rfl (Sl.ix (α := Leg) T88.und T88.size (ownSl (H.get (k := 0) rfl)) (by omega) (by omega))) ?_
      refine s_nil ⟨(H.pick [] (by decide) rfl), ?_⟩
      refine t_l rfl ?_
      refine t_ost (k := 0) (i := j) (l := l.set i (l.getD (Int.toNat j) default)) (l' := (l.set i (l.getD (Int.toNat j) default)).set (Int.toNat j) (l.getD i default)) (val := .agg #[I ((l.getD i default).line), B ((l.getD i default).back)]) (L' := [cOwn (α := Leg) 91 v_s ((l.set i (l.getD (Int.toNat j) default)).set (Int.toNat j) (l.getD i default))]) H rfl Sz91 (by omega) (by omega) (l.getD i default) rfl rfl rfl rfl rfl ?_
      intro w29z H
      refine s_nil ⟨(H.pick [] (by decide) rfl), ?_⟩
      refine t_nil ?_
      refine W.region rfl ?_
      refine s_val (x_mv (v := I (i : Int)) rfl) ?_
      obtain ⟨sd30z, hM⟩ := M.e_grd hM
      simp only [Bool.and_eq_true, decide_eq_true_eq] at sd30z
      refine s_val (x_ari (a := (i : Int)) (b := 1) (r := (i : Int) + 1) rfl rfl rfl (by omega)) ?_
      refine s_val (x_mv (v := I j) rfl) ?_
      obtain ⟨sd31z, hM⟩ := M.e_grd hM
      simp only [Bool.and_eq_true, decide_eq_true_eq] at sd31z
      refine s_val (x_ari (a := j) (b := 1) (r := j - 1) rfl rfl rfl (by omega)) ?_
      refine s_val (x_as (v := I ((i : Int) + 1)) rfl) ?_
      refine s_val (x_as (v := I (j - 1)) rfl) ?_
      refine s_nil ?_
      exact ⟨m8z, lt9z, (l.set i (l.getD (Int.toNat j) default)).set (Int.toNat j) (l.getD i default), i + 1, j - 1, _, upds_of _ _ ⟨rfl, rfl, rfl, trivial⟩, M.e_inl hM hN11z, H⟩
   ·skip
    refine s_val (x_ix (a := v_s) (b := I (i : Int)) (v := vat v_s 2 (Int.toNat (i : Int))) rfl rfl (Sl.ix (α := Leg) T88.und T88.size (ownSl (H.get (k := 0) rfl)) (by omega) (by omega))) ?_
    have hvc_q32z := Sl.cells (ownSl (H.get (k := 0) rfl))
    have hvo_q32z := Sl.oc (ownSl (H.get (k := 0) rfl))
    refine s_nil ⟨(H.pick [] (by decide) rfl), ?_⟩
    refine t_l2 rfl rfl ?_ ?_
    ·skip
     refine s_val (x_ix (a := v_s) (b := I j) (v := vat v_s 2 (Int.toNat j)) rfl rfl (Sl.ix (α := Leg) T88.und T88.size (ownSl (H.get (k := 0) rfl)) (by omega) (by omega))) ?_
     refine s_nil ⟨(H.pick [] (by decide) rfl), ?_⟩
     refine t_l2 rfl rfl ?_ ?_
     ·skip
      refine s_val (x_ld (p := vat v_s 2 (Int.toNat j)) (v := .agg #[I ((l.getD (Int.toNat j) default).line), B ((l.getD (Int.toNat j) default).back)]) rfl (ld_ag Ag91 Sz91 (At.mono (Leg_atA (ownSl (H.get (k := 0) rfl)) (i := j) (by omega) (by omega)) (ownLe _ (H.get (k := 0) rfl))))) ?_
      refine s_nil ⟨(H.pick [] (by decide) rfl), ?_⟩
      refine t_l rfl ?_
      refine s_val (x_ld (p := vat v_s 2 (Int.toNat (i : Int))) (v := .agg #[I ((l.getD i default).line), B ((l.getD i default).back)]) rfl (ld_ag Ag91 Sz91 (At.mono (Leg_atA (ownSl (H.get (k := 0) rfl)) (i := (i : Int)) (by omega) (by omega)) (ownLe _ (H.get (k := 0) rfl))))) ?_
      refine s_nil ⟨(H.pick [] (by decide) rfl), ?_⟩
      refine t_l rfl ?_
      refine s_val (x_ix (a := v_s) (b := I (i : Int)) (v := vat v_s 2 (Int.toNat (i : Int))) rfl rfl (Sl.ix (α := Leg) T88.und T88.size (ownSl (H.get (k := 0) rfl)) (by omega) (by omega))) ?_
      refine s_nil ⟨(H.pick [] (by decide) rfl), ?_⟩
      refine t_l rfl ?_
      refine t_ost (k := 0) (i := (i : Int)) (l := l) (l' := l.set i (l.getD (Int.toNat j) default)) (val := .agg #[I ((l.getD (Int.toNat j) default).line), B ((l.getD (Int.toNat j) default).back)]) (L' := [cOwn (α := Leg) 91 v_s (l.set i (l.getD (Int.toNat j) default))]) H rfl Sz91 (by omega) (by omega) (l.getD (Int.toNat j) default) rfl rfl rfl rfl rfl ?_
      intro w33z H
      refine s_nil ⟨(H.pick [] (by decide) rfl), ?_⟩
      refine t_l rfl ?_
      refine s_val (x_ix (a := v_s) (b := I j) (v := vat v_s 2 (Int.toNat j)) rfl rfl (Sl.ix (α := Leg) T88.und T88.size (ownSl (H.get (k := 0) rfl)) (by omega) (by omega))) ?_
      refine s_nil ⟨(H.pick [] (by decide) rfl), ?_⟩
      refine t_l rfl ?_
      refine t_ost (k := 0) (i := j) (l := l.set i (l.getD (Int.toNat j) default)) (l' := (l.set i (l.getD (Int.toNat j) default)).set (Int.toNat j) (l.getD i default)) (val := .agg #[I ((l.getD i default).line), B ((l.getD i default).back)]) (L' := [cOwn (α := Leg) 91 v_s ((l.set i (l.getD (Int.toNat j) default)).set (Int.toNat j) (l.getD i default))]) H rfl Sz91 (by omega) (by omega) (l.getD i default) rfl rfl rfl rfl rfl ?_
      intro w34z H
      refine s_nil ⟨(H.pick [] (by decide) rfl), ?_⟩
      refine t_nil ?_
      refine W.region rfl ?_
      refine s_val (x_mv (v := I (i : Int)) rfl) ?_
      obtain ⟨sd35z, hM⟩ := M.e_grd hM
      simp only [Bool.and_eq_true, decide_eq_true_eq] at sd35z
      refine s_val (x_ari (a := (i : Int)) (b := 1) (r := (i : Int) + 1) rfl rfl rfl (by omega)) ?_
      refine s_val (x_mv (v := I j) rfl) ?_
      obtain ⟨sd36z, hM⟩ := M.e_grd hM
      simp only [Bool.and_eq_true, decide_eq_true_eq] at sd36z
      refine s_val (x_ari (a := j) (b := 1) (r := j - 1) rfl rfl rfl (by omega)) ?_
      refine s_val (x_as (v := I ((i : Int) + 1)) rfl) ?_
      refine s_val (x_as (v := I (j - 1)) rfl) ?_
      refine s_nil ?_
      exact ⟨m8z, lt9z, (l.set i (l.getD (Int.toNat j) default)).set (Int.toNat j) (l.getD i default), i + 1, j - 1, _, upds_of _ _ ⟨rfl, rfl, rfl, trivial⟩, M.e_inl hM hN11z, H⟩
     ·skip
      refine s_val (x_ld (p := vat v_s 2 (Int.toNat (i : Int))) (v := .agg #[I ((l.getD i default).line), B ((l.getD i default).back)]) rfl (ld_ag Ag91 Sz91 (At.mono (Leg_atA (ownSl (H.get (k := 0) rfl)) (i := (i : Int)) (by omega) (by omega)) (ownLe _ (H.get (k := 0) rfl))))) ?_
      refine s_nil ⟨(H.pick [] (by decide) rfl), ?_⟩
      refine t_l rfl ?_
      refine s_val (x_ld (p := vat v_s 2 (Int.toNat j)) (v := .agg #[I ((l.getD (Int.toNat j) default).line), B ((l.getD (Int.toNat j) default).back)]) rfl (ld_ag Ag91 Sz91 (At.mono (Leg_atA (ownSl (H.get (k := 0) rfl)) (i := j) (by omega) (by omega)) (ownLe _ (H.get (k := 0) rfl))))) ?_
      refine s_nil ⟨(H.pick [] (by decide) rfl), ?_⟩
      refine t_l rfl ?_
      refine s_val (x_ix (a := v_s) (b := I (i : Int)) (v := vat v_s 2 (Int.toNat (i : Int))) rfl rfl (Sl.ix (α := Leg) T88.und T88.size (ownSl (H.get (k := 0) rfl)) (by omega) (by omega))) ?_
      refine s_nil ⟨(H.pick [] (by decide) rfl), ?_⟩
      refine t_l rfl ?_
      refine t_ost (k := 0) (i := (i : Int)) (l := l) (l' := l.set i (l.getD (Int.toNat j) default)) (val := .agg #[I ((l.getD (Int.toNat j) default).line), B ((l.getD (Int.toNat j) default).back)]) (L' := [cOwn (α := Leg) 91 v_s (l.set i (l.getD (Int.toNat j) default))]) H rfl Sz91 (by omega) (by omega) (l.getD (Int.toNat j) default) rfl rfl rfl rfl rfl ?_
      intro w37z H
      refine s_nil ⟨(H.pick [] (by decide) rfl), ?_⟩
      refine t_l rfl ?_
      refine s_val (x_ix (a := v_s) (b := I j) (v := vat v_s 2 (Int.toNat j)) rfl rfl (Sl.ix (α := Leg) T88.und T88.size (ownSl (H.get (k := 0) rfl)) (by omega) (by omega))) ?_
      refine s_nil ⟨(H.pick [] (by decide) rfl), ?_⟩
      refine t_l rfl ?_
      refine t_ost (k := 0) (i := j) (l := l.set i (l.getD (Int.toNat j) default)) (l' := (l.set i (l.getD (Int.toNat j) default)).set (Int.toNat j) (l.getD i default)) (val := .agg #[I ((l.getD i default).line), B ((l.getD i default).back)]) (L' := [cOwn (α := Leg) 91 v_s ((l.set i (l.getD (Int.toNat j) default)).set (Int.toNat j) (l.getD i default))]) H rfl Sz91 (by omega) (by omega) (l.getD i default) rfl rfl rfl rfl rfl ?_
      intro w38z H
      refine s_nil ⟨(H.pick [] (by decide) rfl), ?_⟩
      refine t_nil ?_
      refine W.region rfl ?_
      refine s_val (x_mv (v := I (i : Int)) rfl) ?_
      obtain ⟨sd39z, hM⟩ := M.e_grd hM
      simp only [Bool.and_eq_true, decide_eq_true_eq] at sd39z
      refine s_val (x_ari (a := (i : Int)) (b := 1) (r := (i : Int) + 1) rfl rfl rfl (by omega)) ?_
      refine s_val (x_mv (v := I j) rfl) ?_
      obtain ⟨sd40z, hM⟩ := M.e_grd hM
      simp only [Bool.and_eq_true, decide_eq_true_eq] at sd40z
      refine s_val (x_ari (a := j) (b := 1) (r := j - 1) rfl rfl rfl (by omega)) ?_
      refine s_val (x_as (v := I ((i : Int) + 1)) rfl) ?_
      refine s_val (x_as (v := I (j - 1)) rfl) ?_
      refine s_nil ?_
      exact ⟨m8z, lt9z, (l.set i (l.getD (Int.toNat j) default)).set (Int.toNat j) (l.getD i default), i + 1, j - 1, _, upds_of _ _ ⟨rfl, rfl, rfl, trivial⟩, M.e_inl hM hN11z, H⟩
    ·skip
     refine s_val (x_ld (p := vat v_s 2 (Int.toNat (i : Int))) (v := .agg #[I ((l.getD i default).line), B ((l.getD i default).back)]) rfl (ld_ag Ag91 Sz91 (At.mono (Leg_atA (ownSl (H.get (k := 0) rfl)) (i := (i : Int)) (by omega) (by omega)) (ownLe _ (H.get (k := 0) rfl))))) ?_
     refine s_nil ⟨(H.pick [] (by decide) rfl), ?_⟩
     refine t_l rfl ?_
     refine s_val (x_ix (a := v_s) (b := I j) (v := vat v_s 2 (Int.toNat j)) rfl rfl (Sl.ix (α := Leg) T88.und T88.size (ownSl (H.get (k := 0) rfl)) (by omega) (by omega))) ?_
     refine s_nil ⟨(H.pick [] (by decide) rfl), ?_⟩
     refine t_l rfl ?_
     refine s_val (x_ld (p := vat v_s 2 (Int.toNat j)) (v := .agg #[I ((l.getD (Int.toNat j) default).line), B ((l.getD (Int.toNat j) default).back)]) rfl (ld_ag Ag91 Sz91 (At.mono (Leg_atA (ownSl (H.get (k := 0) rfl)) (i := j) (by omega) (by omega)) (ownLe _ (H.get (k := 0) rfl))))) ?_
     refine s_nil ⟨(H.pick [] (by decide) rfl), ?_⟩
     refine t_l rfl ?_
     refine s_val (x_ix (a := v_s) (b := I (i : Int)) (v := vat v_s 2 (Int.toNat (i : Int))) rfl rfl (Sl.ix (α := Leg) T88.und T88.size (ownSl (H.get (k := 0) rfl)) (by omega) (by omega))) ?_
     refine s_nil ⟨(H.pick [] (by decide) rfl), ?_⟩
     refine t_l rfl ?_
     refine t_ost (k := 0) (i := (i : Int)) (l := l) (l' := l.set i (l.getD (Int.toNat j) default)) (val := .agg #[I ((l.getD (Int.toNat j) default).line), B ((l.getD (Int.toNat j) default).back)]) (L' := [cOwn (α := Leg) 91 v_s (l.set i (l.getD (Int.toNat j) default))]) H rfl Sz91 (by omega) (by omega) (l.getD (Int.toNat j) default) rfl rfl rfl rfl rfl ?_
     intro w41z H
     refine s_nil ⟨(H.pick [] (by decide) rfl), ?_⟩
     refine t_l rfl ?_
     refine s_val (x_ix (a := v_s) (b := I j) (v := vat v_s 2 (Int.toNat j)) rfl rfl (Sl.ix (α := Leg) T88.und T88.size (ownSl (H.get (k := 0) rfl)) (by omega) (by omega))) ?_
     refine s_nil ⟨(H.pick [] (by decide) rfl), ?_⟩
     refine t_l rfl ?_
     refine t_ost (k := 0) (i := j) (l := l.set i (l.getD (Int.toNat j) default)) (l' := (l.set i (l.getD (Int.toNat j) default)).set (Int.toNat j) (l.getD i default)) (val := .agg #[I ((l.getD i default).line), B ((l.getD i default).back)]) (L' := [cOwn (α := Leg) 91 v_s ((l.set i (l.getD (Int.toNat j) default)).set (Int.toNat j) (l.getD i default))]) H rfl Sz91 (by omega) (by omega) (l.getD i default) rfl rfl rfl rfl rfl ?_
     intro w42z H
     refine s_nil ⟨(H.pick [] (by decide) rfl), ?_⟩
     refine t_nil ?_
     refine W.region rfl ?_
     refine s_val (x_mv (v := I (i : Int)) rfl) ?_
     obtain ⟨sd43z, hM⟩ := M.e_grd hM
     simp only [Bool.and_eq_true, decide_eq_true_eq] at sd43z
     refine s_val (x_ari (a := (i : Int)) (b := 1) (r := (i : Int) + 1) rfl rfl rfl (by omega)) ?_
     refine s_val (x_mv (v := I j) rfl) ?_
     obtain ⟨sd44z, hM⟩ := M.e_grd hM
     simp only [Bool.and_eq_true, decide_eq_true_eq] at sd44z
     refine s_val (x_ari (a := j) (b := 1) (r := j - 1) rfl rfl rfl (by omega)) ?_
     refine s_val (x_as (v := I ((i : Int) + 1)) rfl) ?_
     refine s_val (x_as (v := I (j - 1)) rfl) ?_
     refine s_nil ?_
     exact ⟨m8z, lt9z, (l.set i (l.getD (Int.toNat j) default)).set (Int.toNat j) (l.getD i default), i + 1, j - 1, _, upds_of _ _ ⟨rfl, rfl, rfl, trivial⟩, M.e_inl hM hN11z, H⟩
  ·replace hM := M.e_f hM c12z
   simp only [decide_eq_true_eq, decide_eq_false_iff_not, beq_iff_eq, bne_iff_ne, beq_eq_false_iff_ne, bne_eq_false_iff_eq, ne_eq, Decidable.not_not] at c12z
   refine W.exit ?_
   have hX45z := M.e_inr hM hN11z
   subst hX45z
   replace hM := hk4z
   try dsimp only at hM
   have hr_ := M.e_pure hM
   exact ⟨_, resE_tmp0 rfl, ⟨l, hr_, rfl, H⟩⟩

end Go.Proofs.Ytclhljenjphofaa
end
