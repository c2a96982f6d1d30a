/- Part 5 of the texts on which the proof rests. Conditions: none. -/
import Derived.Test.YtndobgodeicloaaZ4
set_option linter.unusedVariables false
set_option linter.unusedSimpArgs false
set_option linter.unusedSectionVars false
section
set_option maxRecDepth 100000
set_option maxHeartbeats 16000000
namespace Go.Proofs.Ytndobgodeicloaa
open Go Go.Nm
def m_notes_web_lanes_b2 (w__list_works : List Work) (revised : List Int) (work : Int) (s2 : Nat) : ((Gate → Option Int) × Nat) → M (((Gate → Option Int) × Nat) ⊕ (Gate → Option Int)) := fun (mp, s) =>
  bif decide ((s : Int) < (((w__list_works.getD s2 default).of).length : Int)) then (
  M.grd (decide ((s : Int) < (((w__list_works.getD s2 default).of).length : Int))) <|
  M.bind (M.opt (((((w__list_works.getD s2 default).of).getD s 0) != work) && !((s2 : Int) == work)) (m_notes_lanes_inner w__list_works revised work mp (fun _ => none) (s2 : Int)) false) fun r3 =>
  bif (((((w__list_works.getD s2 default).of).getD s 0) != work) && (((s2 : Int) == work) || r3)) then (
  M.grd (decide ((-9223372036854775808 : Int) ≤ (2 * (((w__list_works.getD s2 default).of).getD s 0))) && decide ((2 * (((w__list_works.getD s2 default).of).getD s 0)) ≤ (9223372036854775807 : Int))) <|
  M.grd (decide ((-9223372036854775808 : Int) ≤ ((2 * (((w__list_works.getD s2 default).of).getD s 0)) + 1)) && decide (((2 * (((w__list_works.getD s2 default).of).getD s 0)) + 1) ≤ (9223372036854775807 : Int))) <|
  M.grd (decide ((-9223372036854775808 : Int) ≤ (2 * (s2 : Int))) && decide ((2 * (s2 : Int)) ≤ (9223372036854775807 : Int))) <|
  M.pure (.inl (updF mp (⟨((2 * (((w__list_works.getD s2 default).of).getD s 0)) + 1 : Int), 2 * (s2 : Int)⟩ : Gate) (30 : Int), s + 1)))
  else (
  M.pure (.inl (mp, s + 1))))
  else (
  M.pure (.inr mp))
def m_notes_web_lanes_b3 (w__list_works : List Work) (revised : List Int) (work : Int) (s2 : Nat) : ((Gate → Option Int) × Nat) → M (((Gate → Option Int) × Nat) ⊕ (Gate → Option Int)) := fun (mp, s) =>
  bif decide ((s : Int) < (((w__list_works.getD s2 default).of).length : Int)) then (
  M.grd (decide ((s : Int) < (((w__list_works.getD s2 default).of).length : Int))) <|
  M.bind (M.opt (((((w__list_works.getD s2 default).of).getD s 0) != work) && !((s2 : Int) == work)) (m_notes_lanes_inner w__list_works revised work mp (fun _ => none) (s2 : Int)) false) fun r3 =>
  bif (((((w__list_works.getD s2 default).of).getD s 0) != work) && (((s2 : Int) == work) || r3)) then (
  M.grd (decide ((-9223372036854775808 : Int) ≤ (2 * (((w__list_works.getD s2 default).of).getD s 0))) && decide ((2 * (((w__list_works.getD s2 default).of).getD s 0)) ≤ (9223372036854775807 : Int))) <|
  M.grd (decide ((-9223372036854775808 : Int) ≤ ((2 * (((w__list_works.getD s2 default).of).getD s 0)) + 1)) && decide (((2 * (((w__list_works.getD s2 default).of).getD s 0)) + 1) ≤ (9223372036854775807 : Int))) <|
  M.grd (decide ((-9223372036854775808 : Int) ≤ (2 * (s2 : Int))) && decide ((2 * (s2 : Int)) ≤ (9223372036854775807 : Int))) <|
  M.pure (.inl (updF mp (⟨((2 * (((w__list_works.getD s2 default).of).getD s 0)) + 1 : Int), 2 * (s2 : Int)⟩ : Gate) (30 : Int), s + 1)))
  else (
  M.pure (.inl (mp, s + 1))))
  else (
  M.pure (.inr mp))
def m_notes_web_lanes_b4 (w__list_works : List Work) (revised : List Int) (work : Int) : ((Gate → Option Int) × Nat) → M (((Gate → Option Int) × Nat) ⊕ (Gate → Option Int)) := fun (mp3, s2) =>
  bif decide ((s2 : Int) < (w__list_works.length : Int)) then (
  M.grd (decide ((s2 : Int) < (w__list_works.length : Int))) <|
  M.bind (m_notes_lanes_inner w__list_works revised work mp3 (fun _ => none) (s2 : Int)) fun r2 =>
  bif r2 then (
  M.grd (decide ((-9223372036854775808 : Int) ≤ (2 * (s2 : Int))) && decide ((2 * (s2 : Int)) ≤ (9223372036854775807 : Int))) <|
  M.grd (decide ((-9223372036854775808 : Int) ≤ ((2 * (s2 : Int)) + 1)) && decide (((2 * (s2 : Int)) + 1) ≤ (9223372036854775807 : Int))) <|
  M.bind (M.iter (m_notes_web_lanes_b2 w__list_works revised work s2) (updF mp3 (⟨2 * (s2 : Int), ((2 * (s2 : Int)) + 1 : Int)⟩ : Gate) (1 : Int), 0)) fun mp2 =>
  M.pure (.inl (mp2, s2 + 1)))
  else (
  M.bind (M.iter (m_notes_web_lanes_b3 w__list_works revised work s2) (mp3, 0)) fun mp2 =>
  M.pure (.inl (mp2, s2 + 1))))
  else (
  M.pure (.inr mp3))
def m_notes_web_lanes_b6 (w__list_works : List Work) (revised : List Int) (work : Int) (s3 : Nat) : ((Gate → Option Int) × (Int → Option Bool)) → M (((Gate → Option Int) × (Int → Option Bool)) ⊕ ((Gate → Option Int) × (Int → Option Bool))) := fun (mp5, mp6) =>
  M.grd (decide ((-9223372036854775808 : Int) ≤ (2 * (revised.getD s3 0))) && decide ((2 * (revised.getD s3 0)) ≤ (9223372036854775807 : Int))) <|
  M.grd (decide ((-9223372036854775808 : Int) ≤ ((2 * (revised.getD s3 0)) + 1)) && decide (((2 * (revised.getD s3 0)) + 1) ≤ (9223372036854775807 : Int))) <|
  M.bind (m_notes_lanes_goes w__list_works revised work mp5 (fun _ => none) ((2 * (revised.getD s3 0)) + 1)) fun (r4, q_b_n_room, q_b_n_met) =>
  bif !r4 then (
  M.pure (.inr (q_b_n_room, q_b_n_met)))
  else (
  M.pure (.inl (q_b_n_room, q_b_n_met)))
def m_notes_web_lanes_b7 (w__list_works : List Work) (revised : List Int) (work : Int) : ((Gate → Option Int) × (Int → Option Bool) × Nat) → M (((Gate → Option Int) × (Int → Option Bool) × Nat) ⊕ ((Gate → Option Int) × (Int → Option Bool))) := fun (mp9, mp10, s3) =>
  bif decide ((s3 : Int) < (revised.length : Int)) then (
  M.grd (decide ((s3 : Int) < (revised.length : Int))) <|
  M.bind (M.iter (m_notes_web_lanes_b6 w__list_works revised work s3) (mp9, mp10)) fun (mp7, mp8) =>
  M.pure (.inl (mp7, mp8, s3 + 1)))
  else (
  M.pure (.inr (mp9, mp10)))
def m_notes_web_lanes (w__list_works : List Work) (revised : List Int) (work : Int) : M (Int × (Gate → Option Int) × (Int → Option Bool)) :=
  M.bind (M.iter (m_notes_web_lanes_b4 w__list_works revised work) ((fun _ => none), 0)) fun mp4 =>
  M.bind (M.iter (m_notes_web_lanes_b7 w__list_works revised work) (mp4, (fun _ => none), 0)) fun (mp11, mp12) =>
  M.pure (work, mp11, mp12)
theorem notes_web_lanes_ok {R : List Chunk} {b_w_ : Nat} {C_w__list_works : Cells} {v_w__list_works : Value} {C_revised : Cells} {v_revised : Value} (w__list_works : List Work) (revised : List Int) (work : Int) (hC_w__list_works : Reads R C_w__list_works) (hs_w__list_works : Sl C_w__list_works v_w__list_works w__list_works) (h_b_w_ : Has R (cBlk b_w_ [v_w__list_works] 187)) (hC_revised : Reads R C_revised) (hs_revised : Sl C_revised v_revised revised) {r : (Int × (Gate → Option Int) × (Int → Option Bool))} (hM : (m_notes_web_lanes w__list_works revised work).Ends r) (w : World) (H : St w w [] R) : Ret Try.prog 160 #[Pz b_w_, v_revised, I work] w fun v w' => ∃ (y0 : Int) (y1 : Gate → Option Int) (y2 : Int → Option Bool) (nb0 : Nat) (nb1 : Nat) (nb2 : Nat), (y0, y1, y2) = r ∧ v = Pz nb0 ∧ St w w' [cBlk nb0 [Pz b_w_, v_revised, I y0, .map (some nb1), .map (some nb2)] 180, cMap encG I nb1 y1, cMap I B nb2 y2] R := by
 refine ret_of_W Try.func160 rfl rfl rfl ?_
 refine W.seq <| W.region rfl <| sA (.pointer none) rfl <| s_nil <| W.seq <| W.region rfl <| sM (Pz b_w_) rfl <| sM v_revised rfl <| sM (I work) rfl ?_
 refine t_mkmap (κ := Gate) (ν := Int) encG I H ?_
 intro b_1 w1z H
 refine t_mkmap (κ := Int) (ν := Bool) I B H ?_
 intro b_2 w2z H
 refine s_val (x_bld (ps := [(0, Pz b_w_), (1, v_revised), (2, I work), (3, .map (some b_1)), (4, .map (some b_2))]) (zs := [.pointer none, .slice none 0 0, I 0, .map none, .map none]) (L' := [Pz b_w_, v_revised, I work, .map (some b_1), .map (some b_2)]) rfl Try.underlying180 Al180 rfl (Bd180 Try.underlying180) (.cons (cs := [Pz b_w_]) rfl rfl rfl rfl rfl <| .cons (cs := [v_revised]) (Sl.cells hs_revised) rfl rfl rfl rfl <| .cons (cs := [I work]) rfl rfl rfl rfl rfl <| .cons (cs := [.map (some b_1)]) rfl rfl rfl rfl rfl <| .cons (cs := [.map (some b_2)]) rfl rfl rfl rfl rfl <| .nil)) ?_
 refine t_box (v := .agg #[Pz b_w_, v_revised, I work, .map (some b_1), .map (some b_2)]) (cs := [Pz b_w_, v_revised, I work, .map (some b_1), .map (some b_2)]) H rfl rfl ?_
 intro b_3 w3z H
 refine sA (Pz b_3) rfl <| s_nil <| W.seq <| W.seq <| W.region rfl <| sM (Pz b_w_) rfl <| s_val (x_nc (a := ⟨b_w_, 0, none⟩) rfl) <| s_val (x_fa (a := Pz b_w_) (v := Pz b_w_) rfl (fa_blk (o := 0) Fd187_0 Sz185)) <| s_val (x_fa (a := Pz b_w_) (v := Pz b_w_) rfl (fa_blk (o := 0) Fd185_0 Sz22)) <| s_val (x_ld (p := Pz b_w_) (v := v_w__list_works) rfl (ldb_sc Sc22 (h_b_w_.blk H) rfl)) ?_
 have hl4z := (hs_w__list_works).len_le
 refine s_val (x_lenS T22.und rfl hs_w__list_works) <| sM (I 0) rfl <| s_nil <| W.block ?_
 obtain ⟨ex5z, hi6z, hk7z⟩ := M.e_bind hM
 obtain ⟨m0_, hi6z⟩ := M.e_iter hi6z
 refine W.loop (fun m σ W => ∃ (mp3 : Gate → Option Int) (s2 : Nat) (ρ : Env), σ = upds ρ [(1, v_revised), (2, I work), (7, Pz b_3), (25, v_w__list_works), (26, I (w__list_works.length : Int)), (27, I (s2 : Int))] ∧ M.iterN (m_notes_web_lanes_b4 w__list_works revised work) m (mp3, s2) = some ex5z ∧ St w W [cBlk b_3 [Pz b_w_, v_revised, I work, .map (some b_1), .map (some b_2)] 180, cMap I B b_2 (fun _ => none), cMap encG I b_1 mp3] R) ?_ ?_
 ·exact ⟨_, (fun _ => none), 0, _, upds_of _ _ ⟨rfl, rfl, rfl, rfl, rfl, rfl, trivial⟩, hi6z, H⟩
 rintro m10z σ w8z ⟨mp3, s2, ρ, rfl, hI9z, H⟩
 obtain ⟨m11z, lt12z, x13z, hM, hN14z⟩ := M.e_iterN hI9z
 simp only [m_notes_web_lanes_b4] at hM
 clear hI9z
 refine W.seq <| W.region rfl <| sC (s2 : Int) (w__list_works.length : Int) (decide ((s2 : Int) < (w__list_works.length : Int))) rfl rfl rfl <| s_nil <| W.seq ?_
 refine W.cond (decide ((s2 : Int) < (w__list_works.length : Int))) rfl (fun c15z => ?_) (fun c15z => ?_)
 ·replace hM := M.e_t hM c15z
  simp only [qz1, qz2, qz3, qz4, qz5, qz6, ne_eq, qz7] at c15z
  refine W.skip <| W.seq <| W.block <| W.seq <| W.region rfl <| sM (I (s2 : Int)) rfl ?_
  obtain ⟨sd16z, hM⟩ := M.e_grd hM
  simp only [Bool.and_eq_true, decide_eq_true_eq] at sd16z
  refine s_val (x_ix (a := v_w__list_works) (b := I (s2 : Int)) (v := vat v_w__list_works 3 (Int.toNat (s2 : Int))) rfl rfl (Sl.ix (α := Work) T22.und T22.size hs_w__list_works (by omega) (by omega))) ?_
  obtain ⟨u17z, ha19z, hs18z⟩ := Work_atA hs_w__list_works (i := (s2 : Int)) (by omega) (by omega)
  replace hs18z : Sl _ u17z (w__list_works.getD s2 default).of := hs18z
  have hl_hs18z := hs18z.len_le
  refine s_val (x_ld (p := vat v_w__list_works 3 (Int.toNat (s2 : Int))) (v := .agg #[u17z, I ((w__list_works.getD s2 default).base), I ((w__list_works.getD s2 default).minutes)]) rfl (ld_ag Ag60 Sz60 (At.mono ha19z (hC_w__list_works.at H)))) ?_
  refine t_alloc (cs := [.slice none 0 0, I 0, I 0]) H Al60 rfl ?_
  intro b_4 w20z H
  refine sA (I (s2 : Int)) rfl ?_
  refine t_st (k := 0) (b := b_4) (off := 0) (cs := [.slice none 0 0, I 0, I 0]) (vs := [u17z, I ((w__list_works.getD s2 default).base), I ((w__list_works.getD s2 default).minutes)]) (cs' := [u17z, I ((w__list_works.getD s2 default).base), I ((w__list_works.getD s2 default).minutes)]) (v := .agg #[u17z, I ((w__list_works.getD s2 default).base), I ((w__list_works.getD s2 default).minutes)]) (L' := [cBlk b_4 [u17z, I ((w__list_works.getD s2 default).base), I ((w__list_works.getD s2 default).minutes)] 60, cBlk b_3 [Pz b_w_, v_revised, I work, .map (some b_1), .map (some b_2)] 180, cMap I B b_2 (fun _ => none), cMap encG I b_1 mp3]) H rfl rfl rfl Sz60 rfl rfl rfl (by simp only [List.all_cons, List.all_nil, Bool.true_and, Bool.and_true, Sl.oc hs18z]; try rfl) rfl rfl ?_
  intro w21z H
  refine s_nil <| W.seq <| W.seq <| W.region rfl <| sM (Pz b_3) rfl <| sM (I (s2 : Int)) rfl ?_
  obtain ⟨r23z, hx22z, hM⟩ := M.e_bind hM
  refine s_call cf127 [Pz b_3, I (s2 : Int)] rfl (notes_lanes_inner_ok w__list_works revised work mp3 (fun _ => none) (s2 : Int) (hC_w__list_works.app _) hs_w__list_works (h_b_w_.app _) (hC_revised.app _) hs_revised (Has.here (k := 3) rfl) (Has.here (k := 2) rfl) (Has.here (k := 1) rfl) hx22z _ (St.give (T := [cBlk b_4 [u17z, I ((w__list_works.getD s2 default).base), I ((w__list_works.getD s2 default).minutes)] 60, cBlk b_3 [Pz b_w_, v_revised, I work, .map (some b_1), .map (some b_2)] 180, cMap I B b_2 (fun _ => none), cMap encG I b_1 mp3]) H rfl)) ?_
  rintro vq w24z ⟨r2, hr25z, hvq, H2_⟩
  subst hr25z
  subst vq
  try dsimp only at hM
  replace H : St w w24z [cBlk b_4 [u17z, I ((w__list_works.getD s2 default).base), I ((w__list_works.getD s2 default).minutes)] 60, cBlk b_3 [Pz b_w_, v_revised, I work, .map (some b_1), .map (some b_2)] 180, cMap I B b_2 (fun _ => none), cMap encG I b_1 mp3] R := H.back H2_ rfl
  clear H2_
  refine s_nil ?_
  refine W.cond r2 rfl (fun c26z => ?_) (fun c26z => ?_)
  ·replace hM := M.e_t hM c26z
   refine W.region rfl <| sM (Pz b_3) rfl <| s_val (x_nc (a := ⟨b_3, 0, none⟩) rfl) <| s_val (x_fa (a := Pz b_3) (v := Oz b_3 3) rfl (fa_blk (o := 0) Fd180_3 Sz177)) <| s_val (x_ld (p := Oz b_3 3) (v := .map (some b_1)) rfl (ldb_sc Sc177 (H.blk (k := 1) rfl) rfl)) <| sM (I (s2 : Int)) rfl ?_
   obtain ⟨sd27z, hM⟩ := M.e_grd hM
   simp only [Bool.and_eq_true, decide_eq_true_eq] at sd27z
   refine s_val (x_ari (a := 2) (b := (s2 : Int)) (r := 2 * (s2 : Int)) rfl rfl rfl (by omega)) <| sM (I (s2 : Int)) rfl <| s_val (x_ari (a := 2) (b := (s2 : Int)) (r := 2 * (s2 : Int)) rfl rfl rfl (by omega)) ?_
   obtain ⟨sd28z, hM⟩ := M.e_grd hM
   simp only [Bool.and_eq_true, decide_eq_true_eq] at sd28z
   refine s_val (x_ari (a := 2 * (s2 : Int)) (b := 1) (r := (2 * (s2 : Int)) + 1) rfl rfl rfl (by omega)) <| s_val (x_bld (ps := [(0, I (2 * (s2 : Int))), (1, I ((2 * (s2 : Int)) + 1))]) (zs := [I 0, I 0]) (L' := [I (2 * (s2 : Int)), I ((2 * (s2 : Int)) + 1)]) rfl Try.underlying182 Al182 rfl (Bd182 Try.underlying182) (.cons (cs := [I (2 * (s2 : Int))]) rfl rfl rfl rfl rfl <| .cons (cs := [I ((2 * (s2 : Int)) + 1)]) rfl rfl rfl rfl rfl <| .nil)) ?_
   refine t_mapu (i := 3) (kenc := encG) (venc := I) (f := mp3) (k := (⟨2 * (s2 : Int), ((2 * (s2 : Int)) + 1 : Int)⟩ : Gate)) (v := (1 : Int)) (L' := [cBlk b_4 [u17z, I ((w__list_works.getD s2 default).base), I ((w__list_works.getD s2 default).minutes)] 60, cBlk b_3 [Pz b_w_, v_revised, I work, .map (some b_1), .map (some b_2)] 180, cMap I B b_2 (fun _ => none), cMap encG I b_1 (updF mp3 (⟨2 * (s2 : Int), ((2 * (s2 : Int)) + 1 : Int)⟩ : Gate) (1 : Int))]) keyGate Try.underlying177 H rfl rfl rfl rfl rfl ?_
   intro w29z H
   refine s_nil <| W.seq <| W.region rfl <| s_val (x_fa (a := Pz b_4) (v := Pz b_4) rfl (fa_blk (o := 0) Fd60_0 Sz34)) <| s_val (x_ld (p := Pz b_4) (v := u17z) rfl (ldb_sc Sc34 (H.blk (k := 0) rfl) rfl)) ?_
   have hl30z := (hs18z).len_le
   refine s_val (x_lenS T34.und rfl hs18z) <| sM (I 0) rfl <| s_nil <| W.block ?_
   obtain ⟨ex31z, hi32z, hk33z⟩ := M.e_bind hM
   obtain ⟨m0_, hi32z⟩ := M.e_iter hi32z
   refine W.loop (fun m σ W => ∃ (mp : Gate → Option Int) (s : Nat) (ρ : Env), σ = upds ρ [(1, v_revised), (2, I work), (7, Pz b_3), (8, I (s2 : Int)), (25, v_w__list_works), (26, I (w__list_works.length : Int)), (27, I (s2 : Int)), (46, u17z), (47, I (((w__list_works.getD s2 default).of).length : Int)), (48, I (s : Int))] ∧ M.iterN (m_notes_web_lanes_b2 w__list_works revised work s2) m (mp, s) = some ex31z ∧ St w W [cBlk b_4 [u17z, I ((w__list_works.getD s2 default).base), I ((w__list_works.getD s2 default).minutes)] 60, cBlk b_3 [Pz b_w_, v_revised, I work, .map (some b_1), .map (some b_2)] 180, cMap I B b_2 (fun _ => none), cMap encG I b_1 mp] R) ?_ ?_
   ·exact ⟨_, updF mp3 (⟨2 * (s2 : Int), ((2 * (s2 : Int)) + 1 : Int)⟩ : Gate) (1 : Int), 0, _, upds_of _ _ ⟨rfl, rfl, rfl, rfl, rfl, rfl, rfl, rfl, rfl, rfl, trivial⟩, hi32z, H⟩
   rintro m36z σ w34z ⟨mp, s, ρ, rfl, hI35z, H⟩
   obtain ⟨m37z, lt38z, x39z, hM, hN40z⟩ := M.e_iterN hI35z
   simp only [m_notes_web_lanes_b2] at hM
   clear hI35z
   refine W.seq <| W.region rfl <| sC (s : Int) (((w__list_works.getD s2 default).of).length : Int) (decide ((s : Int) < (((w__list_works.getD s2 default).of).length : Int))) rfl rfl rfl <| s_nil <| W.seq ?_
   refine W.cond (decide ((s : Int) < (((w__list_works.getD s2 default).of).length : Int))) rfl (fun c41z => ?_) (fun c41z => ?_)
   ·replace hM := M.e_t hM c41z
    simp only [qz1, qz2, qz3, qz4, qz5, qz6, ne_eq, qz7] at c41z
    refine W.skip <| W.seq <| W.block <| W.seq <| W.region rfl ?_
    obtain ⟨sd42z, hM⟩ := M.e_grd hM
    simp only [Bool.and_eq_true, decide_eq_true_eq] at sd42z
    refine s_val (x_ix (a := u17z) (b := I (s : Int)) (v := vat u17z 1 (Int.toNat (s : Int))) rfl rfl (Sl.ix (α := Int) T34.und T34.size hs18z (by omega) (by omega))) <| s_val (x_ld (p := vat u17z 1 (Int.toNat (s : Int))) (v := I (((w__list_works.getD s2 default).of).getD s 0)) rfl (ld_sc Sc3 (At.mono (Int_at hs18z (i := (s : Int)) (by omega) (by omega)) (hC_w__list_works.at H)))) <| sA (I (((w__list_works.getD s2 default).of).getD s 0)) rfl <| s_nil <| W.seq <| W.region rfl <| sM (I (((w__list_works.getD s2 default).of).getD s 0)) rfl <| sM (I work) rfl <| sC (((w__list_works.getD s2 default).of).getD s 0) work ((((w__list_works.getD s2 default).of).getD s 0) != work) rfl rfl rfl <| sM (B ((((w__list_works.getD s2 default).of).getD s 0) != work)) rfl <| g_val ((((w__list_works.getD s2 default).of).getD s 0) != work) (gy_t rfl) (fun hg => x_mv (v := I (s2 : Int)) rfl) <| g_val ((((w__list_works.getD s2 default).of).getD s 0) != work) (gy_t rfl) (fun hg => x_mv (v := I work) rfl) ?_
    refine g_val ((((w__list_works.getD s2 default).of).getD s 0) != work) (gy_t rfl) (fun hg => x_cmp (kd := .i64) (a := (s2 : Int)) (b := work) (r := (s2 : Int) == work) (gd_of (c := (((w__list_works.getD s2 default).of).getD s 0) != work) hg (I (s2 : Int))) (gd_of (c := (((w__list_works.getD s2 default).of).getD s 0) != work) hg (I work)) rfl) <| g_val ((((w__list_works.getD s2 default).of).getD s 0) != work) (gy_t rfl) (fun hg => x_mv (v := B ((s2 : Int) == work)) (gd_of (c := (((w__list_works.getD s2 default).of).getD s 0) != work) hg (B ((s2 : Int) == work)))) <| g_val (((((w__list_works.getD s2 default).of).getD s 0) != work) && !((s2 : Int) == work)) (gy_gf rfl rfl) (fun hg => x_mv (v := Pz b_3) rfl) <| g_val (((((w__list_works.getD s2 default).of).getD s 0) != work) && !((s2 : Int) == work)) (gy_gf rfl rfl) (fun hg => x_mv (v := I (s2 : Int)) rfl) ?_
    obtain ⟨r3, hx43z, hM⟩ := M.e_bind hM
    refine t_gcall (((((w__list_works.getD s2 default).of).getD s 0) != work) && !((s2 : Int) == work)) (gy_gf rfl rfl) cf127 (B r3) (fun _ => [Pz b_3, I (s2 : Int)]) (fun hg => lst2 (gd_of (c := (((((w__list_works.getD s2 default).of).getD s 0) != work) && !((s2 : Int) == work))) hg (Pz b_3)) (gd_of (c := (((((w__list_works.getD s2 default).of).getD s 0) != work) && !((s2 : Int) == work))) hg (I (s2 : Int)))) H (fun hg => (notes_lanes_inner_ok w__list_works revised work mp (fun _ => none) (s2 : Int) (hC_w__list_works.app _) hs_w__list_works (h_b_w_.app _) (hC_revised.app _) hs_revised (Has.here (k := 3) rfl) (Has.here (k := 2) rfl) (Has.here (k := 1) rfl) (M.e_opt hx43z hg) _ (H.give (A := []) rfl)).mono fun v_ w_ ⟨y_, hr_, hv_, H_⟩ => by subst hr_; exact ⟨hv_, H.via H_⟩) ?_
    intro w44z H
    refine g_val ((((w__list_works.getD s2 default).of).getD s 0) != work) (gy_t rfl) (fun hg => x_por (b := (s2 : Int) == work) (r := r3) (gd_of (c := (((w__list_works.getD s2 default).of).getD s 0) != work) hg (B ((s2 : Int) == work))) rfl (fun hb => gd_of (c := (((((w__list_works.getD s2 default).of).getD s 0) != work) && !((s2 : Int) == work))) (by simp_all) (B r3))) <| s_val (x_pand (b := (((w__list_works.getD s2 default).of).getD s 0) != work) (r := (((s2 : Int) == work) || r3)) rfl (fun hb => gd_of (c := (((w__list_works.getD s2 default).of).getD s 0) != work) (by simp_all) (B (((s2 : Int) == work) || r3))) rfl) <| s_nil ?_
    refine W.cond (((((w__list_works.getD s2 default).of).getD s 0) != work) && (((s2 : Int) == work) || r3)) rfl (fun c45z => ?_) (fun c45z => ?_)
    ·replace hM := M.e_t hM c45z
     refine W.region rfl <| sM (Pz b_3) rfl <| s_val (x_nc (a := ⟨b_3, 0, none⟩) rfl) <| s_val (x_fa (a := Pz b_3) (v := Oz b_3 3) rfl (fa_blk (o := 0) Fd180_3 Sz177)) <| s_val (x_ld (p := Oz b_3 3) (v := .map (some b_1)) rfl (ldb_sc Sc177 (H.blk (k := 1) rfl) rfl)) <| sM (I (((w__list_works.getD s2 default).of).getD s 0)) rfl ?_
     obtain ⟨sd46z, hM⟩ := M.e_grd hM
     simp only [Bool.and_eq_true, decide_eq_true_eq] at sd46z
     refine s_val (x_ari (a := 2) (b := ((w__list_works.getD s2 default).of).getD s 0) (r := 2 * (((w__list_works.getD s2 default).of).getD s 0)) rfl rfl rfl (by omega)) ?_
     obtain ⟨sd47z, hM⟩ := M.e_grd hM
     simp only [Bool.and_eq_true, decide_eq_true_eq] at sd47z
     refine s_val (x_ari (a := 2 * (((w__list_works.getD s2 default).of).getD s 0)) (b := 1) (r := (2 * (((w__list_works.getD s2 default).of).getD s 0)) + 1) rfl rfl rfl (by omega)) <| sM (I (s2 : Int)) rfl ?_
     obtain ⟨sd48z, hM⟩ := M.e_grd hM
     simp only [Bool.and_eq_true, decide_eq_true_eq] at sd48z
     refine s_val (x_ari (a := 2) (b := (s2 : Int)) (r := 2 * (s2 : Int)) rfl rfl rfl (by omega)) <| s_val (x_bld (ps := [(0, I ((2 * (((w__list_works.getD s2 default).of).getD s 0)) + 1)), (1, I (2 * (s2 : Int)))]) (zs := [I 0, I 0]) (L' := [I ((2 * (((w__list_works.getD s2 default).of).getD s 0)) + 1), I (2 * (s2 : Int))]) rfl Try.underlying182 Al182 rfl (Bd182 Try.underlying182) (.cons (cs := [I ((2 * (((w__list_works.getD s2 default).of).getD s 0)) + 1)]) rfl rfl rfl rfl rfl <| .cons (cs := [I (2 * (s2 : Int))]) rfl rfl rfl rfl rfl <| .nil)) ?_
     refine t_mapu (i := 3) (kenc := encG) (venc := I) (f := mp) (k := (⟨((2 * (((w__list_works.getD s2 default).of).getD s 0)) + 1 : Int), 2 * (s2 : Int)⟩ : Gate)) (v := (30 : Int)) (L' := [cBlk b_4 [u17z, I ((w__list_works.getD s2 default).base), I ((w__list_works.getD s2 default).minutes)] 60, cBlk b_3 [Pz b_w_, v_revised, I work, .map (some b_1), .map (some b_2)] 180, cMap I B b_2 (fun _ => none), cMap encG I b_1 (updF mp (⟨((2 * (((w__list_works.getD s2 default).of).getD s 0)) + 1 : Int), 2 * (s2 : Int)⟩ : Gate) (30 : Int))]) keyGate Try.underlying177 H rfl rfl rfl rfl rfl ?_
     intro w49z H
     refine s_nil <| W.region rfl <| s_val (x_ari (a := (s : Int)) (b := 1) (r := (s : Int) + 1) rfl rfl rfl (by omega)) <| sM (I ((s : Int) + 1)) rfl <| s_nil ?_
     exact ⟨m37z, lt38z, updF mp (⟨((2 * (((w__list_works.getD s2 default).of).getD s 0)) + 1 : Int), 2 * (s2 : Int)⟩ : Gate) (30 : Int), s + 1, _, upds_of _ _ ⟨rfl, rfl, rfl, rfl, rfl, rfl, rfl, rfl, rfl, rfl, trivial⟩, M.e_inl hM hN40z, H⟩
    replace hM := M.e_f hM c45z
    refine W.skip <| W.region rfl <| s_val (x_ari (a := (s : Int)) (b := 1) (r := (s : Int) + 1) rfl rfl rfl (by omega)) <| sM (I ((s : Int) + 1)) rfl <| s_nil ?_
    exact ⟨m37z, lt38z, mp, s + 1, _, upds_of _ _ ⟨rfl, rfl, rfl, rfl, rfl, rfl, rfl, rfl, rfl, rfl, trivial⟩, M.e_inl hM hN40z, H⟩
   replace hM := M.e_f hM c41z
   simp only [qz1, qz2, qz3, qz4, qz5, qz6, ne_eq, qz7] at c41z
   refine W.exit ?_
   have hX50z := M.e_inr hM hN40z
   subst hX50z
   replace hM := hk33z
   try dsimp only at hM
   refine W.region rfl <| s_val (x_ari (a := (s2 : Int)) (b := 1) (r := (s2 : Int) + 1) rfl rfl rfl (by omega)) <| sM (I ((s2 : Int) + 1)) rfl <| s_nil ?_
   exact ⟨m11z, lt12z, mp, s2 + 1, _, upds_of _ _ ⟨rfl, rfl, rfl, rfl, rfl, rfl, trivial⟩, M.e_inl hM hN14z, (H.pick [1, 2, 3] (by decide) rfl)⟩
  replace hM := M.e_f hM c26z
  refine W.skip <| W.seq <| W.region rfl <| s_val (x_fa (a := Pz b_4) (v := Pz b_4) rfl (fa_blk (o := 0) Fd60_0 Sz34)) <| s_val (x_ld (p := Pz b_4) (v := u17z) rfl (ldb_sc Sc34 (H.blk (k := 0) rfl) rfl)) ?_
  have hl51z := (hs18z).len_le
  refine s_val (x_lenS T34.und rfl hs18z) <| sM (I 0) rfl <| s_nil <| W.block ?_
  obtain ⟨ex52z, hi53z, hk54z⟩ := M.e_bind hM
  obtain ⟨m0_, hi53z⟩ := M.e_iter hi53z
  refine W.loop (fun m σ W => ∃ (mp : Gate → Option Int) (s : Nat) (ρ : Env), σ = upds ρ [(1, v_revised), (2, I work), (7, Pz b_3), (8, I (s2 : Int)), (25, v_w__list_works), (26, I (w__list_works.length : Int)), (27, I (s2 : Int)), (46, u17z), (47, I (((w__list_works.getD s2 default).of).length : Int)), (48, I (s : Int))] ∧ M.iterN (m_notes_web_lanes_b3 w__list_works revised work s2) m (mp, s) = some ex52z ∧ St w W [cBlk b_4 [u17z, I ((w__list_works.getD s2 default).base), I ((w__list_works.getD s2 default).minutes)] 60, cBlk b_3 [Pz b_w_, v_revised, I work, .map (some b_1), .map (some b_2)] 180, cMap I B b_2 (fun _ => none), cMap encG I b_1 mp] R) ?_ ?_
  ·exact ⟨_, mp3, 0, _, upds_of _ _ ⟨rfl, rfl, rfl, rfl, rfl, rfl, rfl, rfl, rfl, rfl, trivial⟩, hi53z, H⟩
  rintro m57z σ w55z ⟨mp, s, ρ, rfl, hI56z, H⟩
  obtain ⟨m58z, lt59z, x60z, hM, hN61z⟩ := M.e_iterN hI56z
  simp only [m_notes_web_lanes_b3] at hM
  clear hI56z
  refine W.seq <| W.region rfl <| sC (s : Int) (((w__list_works.getD s2 default).of).length : Int) (decide ((s : Int) < (((w__list_works.getD s2 default).of).length : Int))) rfl rfl rfl <| s_nil <| W.seq ?_
  refine W.cond (decide ((s : Int) < (((w__list_works.getD s2 default).of).length : Int))) rfl (fun c62z => ?_) (fun c62z => ?_)
  ·replace hM := M.e_t hM c62z
   simp only [qz1, qz2, qz3, qz4, qz5, qz6, ne_eq, qz7] at c62z
   refine W.skip <| W.seq <| W.block <| W.seq <| W.region rfl ?_
   obtain ⟨sd63z, hM⟩ := M.e_grd hM
   simp only [Bool.and_eq_true, decide_eq_true_eq] at sd63z
   refine s_val (x_ix (a := u17z) (b := I (s : Int)) (v := vat u17z 1 (Int.toNat (s : Int))) rfl rfl (Sl.ix (α := Int) T34.und T34.size hs18z (by omega) (by omega))) <| s_val (x_ld (p := vat u17z 1 (Int.toNat (s : Int))) (v := I (((w__list_works.getD s2 default).of).getD s 0)) rfl (ld_sc Sc3 (At.mono (Int_at hs18z (i := (s : Int)) (by omega) (by omega)) (hC_w__list_works.at H)))) <| sA (I (((w__list_works.getD s2 default).of).getD s 0)) rfl <| s_nil <| W.seq <| W.region rfl <| sM (I (((w__list_works.getD s2 default).of).getD s 0)) rfl <| sM (I work) rfl <| sC (((w__list_works.getD s2 default).of).getD s 0) work ((((w__list_works.getD s2 default).of).getD s 0) != work) rfl rfl rfl <| sM (B ((((w__list_works.getD s2 default).of).getD s 0) != work)) rfl <| g_val ((((w__list_works.getD s2 default).of).getD s 0) != work) (gy_t rfl) (fun hg => x_mv (v := I (s2 : Int)) rfl) <| g_val ((((w__list_works.getD s2 default).of).getD s 0) != work) (gy_t rfl) (fun hg => x_mv (v := I work) rfl) ?_
   refine g_val ((((w__list_works.getD s2 default).of).getD s 0) != work) (gy_t rfl) (fun hg => x_cmp (kd := .i64) (a := (s2 : Int)) (b := work) (r := (s2 : Int) == work) (gd_of (c := (((w__list_works.getD s2 default).of).getD s 0) != work) hg (I (s2 : Int))) (gd_of (c := (((w__list_works.getD s2 default).of).getD s 0) != work) hg (I work)) rfl) <| g_val ((((w__list_works.getD s2 default).of).getD s 0) != work) (gy_t rfl) (fun hg => x_mv (v := B ((s2 : Int) == work)) (gd_of (c := (((w__list_works.getD s2 default).of).getD s 0) != work) hg (B ((s2 : Int) == work)))) <| g_val (((((w__list_works.getD s2 default).of).getD s 0) != work) && !((s2 : Int) == work)) (gy_gf rfl rfl) (fun hg => x_mv (v := Pz b_3) rfl) <| g_val (((((w__list_works.getD s2 default).of).getD s 0) != work) && !((s2 : Int) == work)) (gy_gf rfl rfl) (fun hg => x_mv (v := I (s2 : Int)) rfl) ?_
   obtain ⟨r3, hx64z, hM⟩ := M.e_bind hM
   refine t_gcall (((((w__list_works.getD s2 default).of).getD s 0) != work) && !((s2 : Int) == work)) (gy_gf rfl rfl) cf127 (B r3) (fun _ => [Pz b_3, I (s2 : Int)]) (fun hg => lst2 (gd_of (c := (((((w__list_works.getD s2 default).of).getD s 0) != work) && !((s2 : Int) == work))) hg (Pz b_3)) (gd_of (c := (((((w__list_works.getD s2 default).of).getD s 0) != work) && !((s2 : Int) == work))) hg (I (s2 : Int)))) H (fun hg => (notes_lanes_inner_ok w__list_works revised work mp (fun _ => none) (s2 : Int) (hC_w__list_works.app _) hs_w__list_works (h_b_w_.app _) (hC_revised.app _) hs_revised (Has.here (k := 3) rfl) (Has.here (k := 2) rfl) (Has.here (k := 1) rfl) (M.e_opt hx64z hg) _ (H.give (A := []) rfl)).mono fun v_ w_ ⟨y_, hr_, hv_, H_⟩ => by subst hr_; exact ⟨hv_, H.via H_⟩) ?_
   intro w65z H
   refine g_val ((((w__list_works.getD s2 default).of).getD s 0) != work) (gy_t rfl) (fun hg => x_por (b := (s2 : Int) == work) (r := r3) (gd_of (c := (((w__list_works.getD s2 default).of).getD s 0) != work) hg (B ((s2 : Int) == work))) rfl (fun hb => gd_of (c := (((((w__list_works.getD s2 default).of).getD s 0) != work) && !((s2 : Int) == work))) (by simp_all) (B r3))) <| s_val (x_pand (b := (((w__list_works.getD s2 default).of).getD s 0) != work) (r := (((s2 : Int) == work) || r3)) rfl (fun hb => gd_of (c := (((w__list_works.getD s2 default).of).getD s 0) != work) (by simp_all) (B (((s2 : Int) == work) || r3))) rfl) <| s_nil ?_
   refine W.cond (((((w__list_works.getD s2 default).of).getD s 0) != work) && (((s2 : Int) == work) || r3)) rfl (fun c66z => ?_) (fun c66z => ?_)
   ·replace hM := M.e_t hM c66z
    refine W.region rfl <| sM (Pz b_3) rfl <| s_val (x_nc (a := ⟨b_3, 0, none⟩) rfl) <| s_val (x_fa (a := Pz b_3) (v := Oz b_3 3) rfl (fa_blk (o := 0) Fd180_3 Sz177)) <| s_val (x_ld (p := Oz b_3 3) (v := .map (some b_1)) rfl (ldb_sc Sc177 (H.blk (k := 1) rfl) rfl)) <| sM (I (((w__list_works.getD s2 default).of).getD s 0)) rfl ?_
    obtain ⟨sd67z, hM⟩ := M.e_grd hM
    simp only [Bool.and_eq_true, decide_eq_true_eq] at sd67z
    refine s_val (x_ari (a := 2) (b := ((w__list_works.getD s2 default).of).getD s 0) (r := 2 * (((w__list_works.getD s2 default).of).getD s 0)) rfl rfl rfl (by omega)) ?_
    obtain ⟨sd68z, hM⟩ := M.e_grd hM
    simp only [Bool.and_eq_true, decide_eq_true_eq] at sd68z
    refine s_val (x_ari (a := 2 * (((w__list_works.getD s2 default).of).getD s 0)) (b := 1) (r := (2 * (((w__list_works.getD s2 default).of).getD s 0)) + 1) rfl rfl rfl (by omega)) <| sM (I (s2 : Int)) rfl ?_
    obtain ⟨sd69z, hM⟩ := M.e_grd hM
    simp only [Bool.and_eq_true, decide_eq_true_eq] at sd69z
    refine s_val (x_ari (a := 2) (b := (s2 : Int)) (r := 2 * (s2 : Int)) rfl rfl rfl (by omega)) <| s_val (x_bld (ps := [(0, I ((2 * (((w__list_works.getD s2 default).of).getD s 0)) + 1)), (1, I (2 * (s2 : Int)))]) (zs := [I 0, I 0]) (L' := [I ((2 * (((w__list_works.getD s2 default).of).getD s 0)) + 1), I (2 * (s2 : Int))]) rfl Try.underlying182 Al182 rfl (Bd182 Try.underlying182) (.cons (cs := [I ((2 * (((w__list_works.getD s2 default).of).getD s 0)) + 1)]) rfl rfl rfl rfl rfl <| .cons (cs := [I (2 * (s2 : Int))]) rfl rfl rfl rfl rfl <| .nil)) ?_
    refine t_mapu (i := 3) (kenc := encG) (venc := I) (f := mp) (k := (⟨((2 * (((w__list_works.getD s2 default).of).getD s 0)) + 1 : Int), 2 * (s2 : Int)⟩ : Gate)) (v := (30 : Int)) (L' := [cBlk b_4 [u17z, I ((w__list_works.getD s2 default).base), I ((w__list_works.getD s2 default).minutes)] 60, cBlk b_3 [Pz b_w_, v_revised, I work, .map (some b_1), .map (some b_2)] 180, cMap I B b_2 (fun _ => none), cMap encG I b_1 (updF mp (⟨((2 * (((w__list_works.getD s2 default).of).getD s 0)) + 1 : Int), 2 * (s2 : Int)⟩ : Gate) (30 : Int))]) keyGate Try.underlying177 H rfl rfl rfl rfl rfl ?_
    intro w70z H
    refine s_nil <| W.region rfl <| s_val (x_ari (a := (s : Int)) (b := 1) (r := (s : Int) + 1) rfl rfl rfl (by omega)) <| sM (I ((s : Int) + 1)) rfl <| s_nil ?_
    exact ⟨m58z, lt59z, updF mp (⟨((2 * (((w__list_works.getD s2 default).of).getD s 0)) + 1 : Int), 2 * (s2 : Int)⟩ : Gate) (30 : Int), s + 1, _, upds_of _ _ ⟨rfl, rfl, rfl, rfl, rfl, rfl, rfl, rfl, rfl, rfl, trivial⟩, M.e_inl hM hN61z, H⟩
   replace hM := M.e_f hM c66z
   refine W.skip <| W.region rfl <| s_val (x_ari (a := (s : Int)) (b := 1) (r := (s : Int) + 1) rfl rfl rfl (by omega)) <| sM (I ((s : Int) + 1)) rfl <| s_nil ?_
   exact ⟨m58z, lt59z, mp, s + 1, _, upds_of _ _ ⟨rfl, rfl, rfl, rfl, rfl, rfl, rfl, rfl, rfl, rfl, trivial⟩, M.e_inl hM hN61z, H⟩
  replace hM := M.e_f hM c62z
  simp only [qz1, qz2, qz3, qz4, qz5, qz6, ne_eq, qz7] at c62z
  refine W.exit ?_
  have hX71z := M.e_inr hM hN61z
  subst hX71z
  replace hM := hk54z
  try dsimp only at hM
  refine W.region rfl <| s_val (x_ari (a := (s2 : Int)) (b := 1) (r := (s2 : Int) + 1) rfl rfl rfl (by omega)) <| sM (I ((s2 : Int) + 1)) rfl <| s_nil ?_
  exact ⟨m11z, lt12z, mp, s2 + 1, _, upds_of _ _ ⟨rfl, rfl, rfl, rfl, rfl, rfl, trivial⟩, M.e_inl hM hN14z, (H.pick [1, 2, 3] (by decide) rfl)⟩
 replace hM := M.e_f hM c15z
 simp only [qz1, qz2, qz3, qz4, qz5, qz6, ne_eq, qz7] at c15z
 refine W.exit ?_
 have hX72z := M.e_inr hM hN14z
 subst hX72z
 replace hM := hk7z
 try dsimp only at hM
 refine W.seq <| W.seq <| W.region rfl <| sM v_revised rfl ?_
 have hl73z := (hs_revised).len_le
 refine s_val (x_lenS T34.und rfl hs_revised) <| sM (I 0) rfl <| s_nil <| W.block ?_
 obtain ⟨ex74z, hi75z, hk76z⟩ := M.e_bind hM
 obtain ⟨m0_, hi75z⟩ := M.e_iter hi75z
 refine W.loop (fun m σ W => ∃ (mp9 : Gate → Option Int) (mp10 : Int → Option Bool) (s3 : Nat) (ρ : Env), σ = upds ρ [(7, Pz b_3), (77, v_revised), (78, I (revised.length : Int)), (79, I (s3 : Int))] ∧ M.iterN (m_notes_web_lanes_b7 w__list_works revised work) m (mp9, mp10, s3) = some ex74z ∧ St w W [cBlk b_3 [Pz b_w_, v_revised, I work, .map (some b_1), .map (some b_2)] 180, cMap I B b_2 mp10, cMap encG I b_1 mp9] R) ?_ ?_
 ·exact ⟨_, mp3, (fun _ => none), 0, _, upds_of _ _ ⟨rfl, rfl, rfl, rfl, trivial⟩, hi75z, H⟩
 rintro m79z σ w77z ⟨mp9, mp10, s3, ρ, rfl, hI78z, H⟩
 obtain ⟨m80z, lt81z, x82z, hM, hN83z⟩ := M.e_iterN hI78z
 simp only [m_notes_web_lanes_b7] at hM
 clear hI78z
 refine W.seq <| W.region rfl <| sC (s3 : Int) (revised.length : Int) (decide ((s3 : Int) < (revised.length : Int))) rfl rfl rfl <| s_nil <| W.seq ?_
 refine W.cond (decide ((s3 : Int) < (revised.length : Int))) rfl (fun c84z => ?_) (fun c84z => ?_)
 ·replace hM := M.e_t hM c84z
  simp only [qz1, qz2, qz3, qz4, qz5, qz6, ne_eq, qz7] at c84z
  refine W.skip <| W.seq <| W.block <| W.seq <| W.region rfl ?_
  obtain ⟨sd85z, hM⟩ := M.e_grd hM
  simp only [Bool.and_eq_true, decide_eq_true_eq] at sd85z
  refine s_val (x_ix (a := v_revised) (b := I (s3 : Int)) (v := vat v_revised 1 (Int.toNat (s3 : Int))) rfl rfl (Sl.ix (α := Int) T34.und T34.size hs_revised (by omega) (by omega))) <| s_val (x_ld (p := vat v_revised 1 (Int.toNat (s3 : Int))) (v := I (revised.getD s3 0)) rfl (ld_sc Sc3 (At.mono (Int_at hs_revised (i := (s3 : Int)) (by omega) (by omega)) (hC_revised.at H)))) <| sA (I (revised.getD s3 0)) rfl <| s_nil ?_
  refine W.scope ?_
  refine W.seq ?_
  refine W.label ?_
  refine W.block ?_
  obtain ⟨ex86z, hi87z, hk88z⟩ := M.e_bind hM
  obtain ⟨m0_, hi87z⟩ := M.e_iter hi87z
  refine W.loop (fun m σ W => ∃ (mp5 : Gate → Option Int) (mp6 : Int → Option Bool) (ρ : Env), σ = upds ρ [(7, Pz b_3), (13, I (revised.getD s3 0)), (77, v_revised), (78, I (revised.length : Int)), (79, I (s3 : Int))] ∧ M.iterN (m_notes_web_lanes_b6 w__list_works revised work s3) m (mp5, mp6) = some ex86z ∧ St w W [cBlk b_3 [Pz b_w_, v_revised, I work, .map (some b_1), .map (some b_2)] 180, cMap I B b_2 mp6, cMap encG I b_1 mp5] R) ?_ ?_
  ·exact ⟨_, mp9, mp10, _, upds_of _ _ ⟨rfl, rfl, rfl, rfl, rfl, trivial⟩, hi87z, H⟩
  rintro m91z σ w89z ⟨mp5, mp6, ρ, rfl, hI90z, H⟩
  obtain ⟨m92z, lt93z, x94z, hM, hN95z⟩ := M.e_iterN hI90z
  simp only [m_notes_web_lanes_b6] at hM
  clear hI90z
  refine W.block <| W.seq <| W.region rfl <| sM (Pz b_3) rfl <| s_val (x_nc (a := ⟨b_3, 0, none⟩) rfl) <| s_val (x_fa (a := Pz b_3) (v := Oz b_3 4) rfl (fa_blk (o := 0) Fd180_4 Sz178)) <| s_val (x_ld (p := Oz b_3 4) (v := .map (some b_2)) rfl (ldb_sc Sc178 (H.blk (k := 0) rfl) rfl)) ?_
  refine t_clearm (i := 1) (kenc := I) (venc := B) (f := mp6) (L' := [cBlk b_3 [Pz b_w_, v_revised, I work, .map (some b_1), .map (some b_2)] 180, cMap I B b_2 (fun _ => none), cMap encG I b_1 mp5]) (by rw [show (#[178] : Array TypeId)[0]?.bind Try.prog.underlying = Try.prog.underlying 178 from rfl, Try.underlying178]; rfl) H rfl rfl rfl ?_
  intro w96z H
  refine s_nil <| W.seq <| W.region rfl <| sM (Pz b_3) rfl <| sM (I (revised.getD s3 0)) rfl ?_
  obtain ⟨sd97z, hM⟩ := M.e_grd hM
  simp only [Bool.and_eq_true, decide_eq_true_eq] at sd97z
  refine s_val (x_ari (a := 2) (b := revised.getD s3 0) (r := 2 * (revised.getD s3 0)) rfl rfl rfl (by omega)) ?_
  obtain ⟨sd98z, hM⟩ := M.e_grd hM
  simp only [Bool.and_eq_true, decide_eq_true_eq] at sd98z
  refine s_val (x_ari (a := 2 * (revised.getD s3 0)) (b := 1) (r := (2 * (revised.getD s3 0)) + 1) rfl rfl rfl (by omega)) ?_
  obtain ⟨r100z, hx99z, hM⟩ := M.e_bind hM
  refine s_call cf126 [Pz b_3, I ((2 * (revised.getD s3 0)) + 1)] rfl (notes_lanes_goes_ok w__list_works revised work mp5 (fun _ => none) ((2 * (revised.getD s3 0)) + 1) (hC_w__list_works.app _) hs_w__list_works (h_b_w_.app _) (hC_revised.app _) hs_revised (Has.here (k := 0) rfl) hx99z _ (St.give (L := [cMap encG I b_1 mp5, cMap I B b_2 (fun _ => none), cBlk b_3 [Pz b_w_, v_revised, I work, .map (some b_1), .map (some b_2)] 180]) (A := [cMap encG I b_1 mp5, cMap I B b_2 (fun _ => none)]) (T := [cBlk b_3 [Pz b_w_, v_revised, I work, .map (some b_1), .map (some b_2)] 180]) (H.pick [2, 1, 0] (by decide) rfl) rfl)) ?_
  rintro vq w101z ⟨r4, q_b_n_room, q_b_n_met, hr102z, hvq, H2_⟩
  subst hr102z
  subst vq
  try dsimp only at hM
  replace H : St w w101z [cMap encG I b_1 q_b_n_room, cMap I B b_2 q_b_n_met, cBlk b_3 [Pz b_w_, v_revised, I work, .map (some b_1), .map (some b_2)] 180] R := H.pick [2, 1, 0] (by decide) rfl |>.back H2_ rfl
  clear H2_
  refine s_val (x_not (b := r4) rfl) <| s_nil ?_
  refine W.cond (!r4) rfl (fun c103z => ?_) (fun c103z => ?_)
  ·replace hM := M.e_t hM c103z
   refine W.exit ?_
   have hX104z := M.e_inr hM hN95z
   subst hX104z
   replace hM := hk88z
   try dsimp only at hM
   refine W.region rfl <| s_val (x_ari (a := (s3 : Int)) (b := 1) (r := (s3 : Int) + 1) rfl rfl rfl (by omega)) <| sM (I ((s3 : Int) + 1)) rfl <| s_nil ?_
   exact ⟨m80z, lt81z, q_b_n_room, q_b_n_met, s3 + 1, _, upds_of _ _ ⟨rfl, rfl, rfl, rfl, trivial⟩, M.e_inl hM hN83z, (H.pick [2, 1, 0] (by decide) rfl)⟩
  replace hM := M.e_f hM c103z
  refine W.skip ?_
  exact ⟨m92z, lt93z, q_b_n_room, q_b_n_met, _, upds_of _ _ ⟨rfl, rfl, rfl, rfl, rfl, trivial⟩, M.e_inl hM hN95z, (H.pick [2, 1, 0] (by decide) rfl)⟩
 replace hM := M.e_f hM c84z
 simp only [qz1, qz2, qz3, qz4, qz5, qz6, ne_eq, qz7] at c84z
 refine W.exit ?_
 have hX105z := M.e_inr hM hN83z
 subst hX105z
 replace hM := hk76z
 try dsimp only at hM
 refine W.seq <| W.region rfl <| sM (Pz b_3) rfl <| sA (Pz b_3) rfl <| s_nil ?_
 refine W.ret ?_
 have hr_ := M.e_pure hM
 exact ⟨_, resE_tmp rfl, ⟨work, mp9, mp10, b_3, b_1, b_2, hr_, rfl, (H.pick [0, 2, 1] (by decide) rfl)⟩⟩

def m_notes_full (w_ : List Work) (revised : List Int) (work : Int) : M (Int ⊕ (Int × (Gate → Option Int) × (Int → Option Bool) × Int)) :=
  M.bind (m_notes_kept w_ revised work) fun x_ => match x_ with
  | (.inl r1) => (
  bif r1 != 0 then (
  M.pure (.inl r1))
  else (
  M.fail))
  | (.inr r12) => (
  bif r12 != 0 then (
  M.pure (.inl r12))
  else (
  M.bind (m_slices_ContainsFunc_int revised (fun xqz => m_notes_full_1 xqz w_ work)) fun r2 =>
  bif r2 then (
  M.pure (.inl 5))
  else (
  M.bind (m_notes_web_lanes w_ revised work) fun (r22, r3, r4) =>
  M.pure (.inr (r22, r3, r4, 0)))))
theorem notes_full_ok {R : List Chunk} {C_w_ : Cells} {v_w_ : Value} {C_revised : Cells} {v_revised : Value} (w_ : List Work) (revised : List Int) (work : Int) (hC_w_ : Reads R C_w_) (hs_w_ : Sl C_w_ v_w_ w_) (hC_revised : Reads R C_revised) (hs_revised : Sl C_revised v_revised revised) {r : (Int ⊕ (Int × (Gate → Option Int) × (Int → Option Bool) × Int))} (hM : (m_notes_full w_ revised work).Ends r) (w : World) (H : St w w [] R) : Ret Try.prog 125 #[v_w_, v_revised, I work] w fun v w' => (∃ (y0 : Int), (.inl y0) = r ∧ v = .tuple #[.pointer none, I y0] ∧ St w w' [] R) ∨ (∃ (y0 : Int) (y1 : Gate → Option Int) (y2 : Int → Option Bool) (y3 : Int) (nb0 : Nat) (nb1 : Nat) (Bs2 : Base) (nb3 : Nat) (nb4 : Nat), (.inr (y0, y1, y2, y3)) = r ∧ v = .tuple #[Pz nb0, I y3] ∧ St w w' [cBlk nb0 [Pz nb1, v_revised, I y0, .map (some nb3), .map (some nb4)] 180, cRo Bs2, cMap encG I nb3 y1, cMap I B nb4 y2] R ∧ (∀ W, (cRo Bs2).ok W → W.heap[nb1]? = some (.cells [v_w_].toArray 187 (0, 0)))) := by
 refine ret_of_W Try.func125 rfl rfl rfl ?_
 refine W.seq <| W.region rfl ?_
 refine t_box (v := I work) (cs := [I work]) H rfl rfl ?_
 intro b_1 w1z H
 refine sA (.pointer none) rfl <| sA (I 0) rfl <| s_nil <| W.seq <| W.region rfl <| sM v_w_ rfl <| sM v_revised rfl <| s_val (x_ld (p := Pz b_1) (v := I work) rfl (ldb_sc Sc3 (H.blk (k := 0) rfl) rfl)) ?_
 obtain ⟨r3z, hx2z, hM⟩ := M.e_bind hM
 refine s_call cf116 [v_w_, v_revised, I work] rfl (notes_kept_ok w_ revised work (hC_w_.app _) hs_w_ (hC_revised.app _) hs_revised hx2z _ (St.give (T := [cBlk b_1 [I work] 3]) H rfl)) ?_
 rintro vq w4z (⟨r1, hr5z, hvq, H2_⟩ | ⟨r12, nb0_2, Bs1_3, hr6z, hvq, H2_, hf7z⟩)
 ·subst hr5z
  subst vq
  try dsimp only at hM
  replace H : St w w4z [cBlk b_1 [I work] 3] R := H.back H2_ rfl
  clear H2_
  refine sM (.tuple #[.pointer none, I r1]) rfl <| s_val (x_ext (vs := [.pointer none, I r1]) (v := .pointer none) rfl rfl) <| s_val (x_ext (vs := [.pointer none, I r1]) (v := I r1) rfl rfl) ?_
  refine t_alloc (cs := [.pointer none]) H Al127 rfl ?_
  intro b_4 w8z H
  refine t_st (k := 0) (b := b_4) (off := 0) (cs := [.pointer none]) (vs := [.pointer none]) (cs' := [.pointer none]) (v := .pointer none) (L' := [cBlk b_4 [.pointer none] 127, cBlk b_1 [I work] 3]) H rfl rfl rfl Sz127 rfl rfl rfl rfl rfl rfl ?_
  intro w9z H
  refine sA (I r1) rfl <| s_nil <| W.seq <| W.block <| W.seq <| W.region rfl <| sM (I r1) rfl <| sC r1 0 (r1 != 0) rfl rfl rfl <| sA (B (r1 != 0)) rfl <| s_nil ?_
  refine W.cond (r1 != 0) rfl (fun c10z => ?_) (fun c10z => ?_)
  ·replace hM := M.e_t hM c10z
   simp only [qz1, qz2, qz3, qz4, qz5, qz6, ne_eq, qz7] at c10z
   refine W.seq <| W.region rfl <| sM (I r1) rfl <| sA (.pointer none) rfl <| sA (I r1) rfl <| s_nil ?_
   refine W.ret ?_
   have hr_ := M.e_pure hM
   exact ⟨_, resE_tmp2 rfl, .inl (⟨r1, hr_, rfl, (H.pick [] (by decide) rfl)⟩)⟩
  replace hM := M.e_f hM c10z
  simp only [qz1, qz2, qz3, qz4, qz5, qz6, ne_eq, qz7] at c10z
  refine W.seq <| W.region rfl <| sM v_revised rfl <| s_val (x_mf (fs := []) (cs := [Pz b_4, Pz b_1]) rfl rfl) ?_
  exact (M.e_fail hM).elim
 subst hr6z
 subst vq
 try dsimp only at hM
 replace H : St w w4z [cRo Bs1_3, cBlk b_1 [I work] 3] R := H.back H2_ rfl
 clear H2_
 refine sM (.tuple #[Pz nb0_2, I r12]) rfl <| s_val (x_ext (vs := [Pz nb0_2, I r12]) (v := Pz nb0_2) rfl rfl) <| s_val (x_ext (vs := [Pz nb0_2, I r12]) (v := I r12) rfl rfl) ?_
 refine t_alloc (cs := [.pointer none]) H Al127 rfl ?_
 intro b_4 w11z H
 refine t_st (k := 0) (b := b_4) (off := 0) (cs := [.pointer none]) (vs := [Pz nb0_2]) (cs' := [Pz nb0_2]) (v := Pz nb0_2) (L' := [cBlk b_4 [Pz nb0_2] 127, cRo Bs1_3, cBlk b_1 [I work] 3]) H rfl rfl rfl Sz127 rfl rfl rfl rfl rfl rfl ?_
 intro w12z H
 refine sA (I r12) rfl <| s_nil <| W.seq <| W.block <| W.seq <| W.region rfl <| sM (I r12) rfl <| sC r12 0 (r12 != 0) rfl rfl rfl <| sA (B (r12 != 0)) rfl <| s_nil ?_
 refine W.cond (r12 != 0) rfl (fun c13z => ?_) (fun c13z => ?_)
 ·replace hM := M.e_t hM c13z
  simp only [qz1, qz2, qz3, qz4, qz5, qz6, ne_eq, qz7] at c13z
  refine W.seq <| W.region rfl <| sM (I r12) rfl <| sA (.pointer none) rfl <| sA (I r12) rfl <| s_nil ?_
  refine W.ret ?_
  have hr_ := M.e_pure hM
  exact ⟨_, resE_tmp2 rfl, .inl (⟨r12, hr_, rfl, (H.pick [] (by decide) rfl)⟩)⟩
 replace hM := M.e_f hM c13z
 simp only [qz1, qz2, qz3, qz4, qz5, qz6, ne_eq, qz7] at c13z
 refine W.seq <| W.region rfl <| sM v_revised rfl <| s_val (x_mf (fs := []) (cs := [Pz b_4, Pz b_1]) rfl rfl) ?_
 obtain ⟨r15z, hx14z, hM⟩ := M.e_bind hM
 refine s_call cf48 [v_revised, .func (.func 159) #[] #[Pz b_4, Pz b_1]] rfl (slices_ContainsFunc_int_ok revised (fun xqz => m_notes_full_1 xqz w_ work) (hC_revised.app _) hs_revised ⟨159, [Pz b_4, Pz b_1], rfl, cf159, fun wqz Lqz Cqz vqz xqz bqz hsqz hCqz hAqz hpqz => by obtain rfl := Arg.int hAqz; exact (notes_full_1_ok xqz w_ work (Reads.app (hC_w_.app _) _) hs_w_ (Has.app (Has.ro (k := 1) rfl hf7z) _) (Has.app (Has.here (k := 0) rfl) _) (Has.app (Has.here (k := 2) rfl) _) hpqz wqz (St.refl hsqz)).mono fun vqz wqz ⟨yqz, hrqz, hvqz, Hqz⟩ => by subst hrqz; exact ⟨hvqz, Hqz⟩⟩ hx14z _ (St.give (T := [cBlk b_4 [Pz nb0_2] 127, cRo Bs1_3, cBlk b_1 [I work] 3]) H rfl)) ?_
 rintro vq w16z ⟨r2, hr17z, hvq, H2_⟩
 subst hr17z
 subst vq
 try dsimp only at hM
 replace H : St w w16z [cBlk b_4 [Pz nb0_2] 127, cRo Bs1_3, cBlk b_1 [I work] 3] R := H.back H2_ rfl
 clear H2_
 refine sA (B r2) rfl <| s_nil ?_
 refine W.cond r2 rfl (fun c18z => ?_) (fun c18z => ?_)
 ·replace hM := M.e_t hM c18z
  refine W.seq <| W.region rfl <| sA (.pointer none) rfl <| sA (I 5) rfl <| s_nil ?_
  refine W.ret ?_
  have hr_ := M.e_pure hM
  exact ⟨_, resE_tmp2 rfl, .inl (⟨5, hr_, rfl, (H.pick [] (by decide) rfl)⟩)⟩
 replace hM := M.e_f hM c18z
 refine W.skip <| W.seq <| W.region rfl <| s_val (x_ld (p := Pz b_4) (v := Pz nb0_2) rfl (ldb_sc Sc127 (H.blk (k := 0) rfl) rfl)) <| sM v_revised rfl <| s_val (x_ld (p := Pz b_1) (v := I work) rfl (ldb_sc Sc3 (H.blk (k := 2) rfl) rfl)) ?_
 obtain ⟨r20z, hx19z, hM⟩ := M.e_bind hM
 refine s_call cf160 [Pz nb0_2, v_revised, I work] rfl (notes_web_lanes_ok w_ revised work (hC_w_.app _) hs_w_ (Has.ro (k := 1) rfl hf7z) (hC_revised.app _) hs_revised hx19z _ (St.give (T := [cBlk b_4 [Pz nb0_2] 127, cRo Bs1_3, cBlk b_1 [I work] 3]) H rfl)) ?_
 rintro vq w21z ⟨r22, r3, r4, nb0_5, nb1_6, nb2_7, hr22z, hvq, H2_⟩
 subst hr22z
 subst vq
 try dsimp only at hM
 replace H : St w w21z [cBlk nb0_5 [Pz nb0_2, v_revised, I r22, .map (some nb1_6), .map (some nb2_7)] 180, cMap encG I nb1_6 r3, cMap I B nb2_7 r4, cBlk b_4 [Pz nb0_2] 127, cRo Bs1_3, cBlk b_1 [I work] 3] R := H.back H2_ rfl
 clear H2_
 refine sA (Pz nb0_5) rfl <| sA (I 0) rfl <| s_nil ?_
 refine W.ret ?_
 have hr_ := M.e_pure hM
 exact ⟨_, resE_tmp2 rfl, .inr (⟨r22, r3, r4, 0, nb0_5, nb0_2, Bs1_3, nb1_6, nb2_7, hr_, rfl, (H.pick [0, 4, 1, 2] (by decide) rfl), hf7z⟩)⟩

def m_notes_Freeze_b0 (w_ : List Work) (revised : List Int) (r02 : Int) : ((Gate → Option Int) × (Int → Option Bool) × Nat) → M (((Gate → Option Int) × (Int → Option Bool) × Nat) ⊕ ((Gate → Option Int) × (Int → Option Bool))) := fun (mp, mp2, s) =>
  bif decide ((s : Int) < (revised.length : Int)) then (
  M.grd (decide ((s : Int) < (revised.length : Int))) <|
  M.grd (decide ((-9223372036854775808 : Int) ≤ (2 * (revised.getD s 0))) && decide ((2 * (revised.getD s 0)) ≤ (9223372036854775807 : Int))) <|
  M.grd (decide ((-9223372036854775808 : Int) ≤ ((2 * (revised.getD s 0)) + 1)) && decide (((2 * (revised.getD s 0)) + 1) ≤ (9223372036854775807 : Int))) <|
  M.bind (m_notes_lanes_goes w_ revised r02 mp mp2 ((2 * (revised.getD s 0)) + 1)) fun (r2, q_b_n_room, q_b_n_met) =>
  M.pure (.inl (q_b_n_room, q_b_n_met, s + 1)))
  else (
  M.pure (.inr (mp, mp2)))
def m_notes_Freeze_b1 (w_ : List Work) (revised : List Int) (r02 : Int) (mp3 : Gate → Option Int) (mp4 : Int → Option Bool) : (Nat × (List Int)) → M ((Nat × (List Int)) ⊕ ((List Int) × (List Int))) := fun (s2, l) =>
  bif decide ((s2 : Int) < (w_.length : Int)) then (
  M.bind (m_notes_lanes_inner w_ revised r02 mp3 mp4 (s2 : Int)) fun r3 =>
  M.grd ((!r3 || (decide ((-9223372036854775808 : Int) ≤ (2 * (s2 : Int))) && decide ((2 * (s2 : Int)) ≤ (9223372036854775807 : Int))))) <|
  M.grd ((!(r3 && ((mp4 (2 * (s2 : Int))).getD false)) || (decide ((-9223372036854775808 : Int) ≤ (2 * (s2 : Int))) && decide ((2 * (s2 : Int)) ≤ (9223372036854775807 : Int))))) <|
  M.grd ((!(r3 && ((mp4 (2 * (s2 : Int))).getD false)) || (decide ((-9223372036854775808 : Int) ≤ ((2 * (s2 : Int)) + 1)) && decide (((2 * (s2 : Int)) + 1) ≤ (9223372036854775807 : Int))))) <|
  bif ((r3 && ((mp4 (2 * (s2 : Int))).getD false)) && (!((mp4 ((2 * (s2 : Int)) + 1 : Int)).getD false))) then (
  M.grd (decide ((l.length + ([(s2 : Int)]).length) * 8 ≤ 140737488355328)) <|
  M.pure (.inl (s2 + 1, l ++ ([(s2 : Int)]))))
  else (
  M.pure (.inl (s2 + 1, l))))
  else (
  M.pure (.inr (l, l)))
def m_notes_Freeze (w_ : List Work) (revised : List Int) (work : Int) : M ((List Int) × Int) :=
  M.bind (m_notes_full w_ revised work) fun x_ => match x_ with
  | (.inl r1) => (
  bif r1 != 0 then (
  M.pure (([]), r1))
  else (
  M.fail))
  | (.inr (r02, r03, r04, r12)) => (
  bif r12 != 0 then (
  M.pure (([]), r12))
  else (
  M.bind (M.iter (m_notes_Freeze_b0 w_ revised r02) (r03, (fun _ => none), 0)) fun (mp3, mp4) =>
  M.bind (M.iter (m_notes_Freeze_b1 w_ revised r02 mp3 mp4) (0, [])) fun (l2, l3) =>
  M.pure (l3, 0)))
theorem notes_Freeze_ok {R : List Chunk} {C_w_ : Cells} {v_w_ : Value} {C_revised : Cells} {v_revised : Value} (w_ : List Work) (revised : List Int) (work : Int) (hC_w_ : Reads R C_w_) (hs_w_ : Sl C_w_ v_w_ w_) (hC_revised : Reads R C_revised) (hs_revised : Sl C_revised v_revised revised) {r : ((List Int) × Int)} (hM : (m_notes_Freeze w_ revised work).Ends r) (w : World) (H : St w w [] R) : Ret Try.prog 64 #[v_w_, v_revised, I work] w fun v w' => ∃ (y0 : List Int) (y1 : Int) (u0 : Value), (y0, y1) = r ∧ v = .tuple #[u0, I y1] ∧ St w w' [cOwn (α := Int) 3 u0 y0] R := by
 refine ret_of_W Try.func64 rfl rfl rfl ?_
 refine W.seq <| W.region rfl <| sA (.slice none 0 0) rfl <| sA (I 0) rfl <| s_nil <| W.seq <| W.region rfl <| sM v_w_ rfl <| sM v_revised rfl <| sM (I work) rfl ?_
 obtain ⟨r2z, hx1z, hM⟩ := M.e_bind hM
 refine s_call cf125 [v_w_, v_revised, I work] rfl (notes_full_ok w_ revised work (hC_w_.app _) hs_w_ (hC_revised.app _) hs_revised hx1z _ (St.give (T := []) H rfl)) ?_
 rintro vq w3z (⟨r1, hr4z, hvq, H2_⟩ | ⟨r02, r03, r04, r12, nb0_1, nb1_2, Bs2_3, nb3_4, nb4_5, hr5z, hvq, H2_, hf6z⟩)
 ·subst hr4z
  subst vq
  try dsimp only at hM
  replace H : St w w3z [] R := H.back H2_ rfl
  clear H2_
  refine sM (.tuple #[.pointer none, I r1]) rfl <| s_val (x_ext (vs := [.pointer none, I r1]) (v := .pointer none) rfl rfl) <| s_val (x_ext (vs := [.pointer none, I r1]) (v := I r1) rfl rfl) <| sA (.pointer none) rfl <| sA (I r1) rfl <| s_nil <| W.seq <| W.seq <| W.region rfl <| sM (I r1) rfl <| sC r1 0 (r1 != 0) rfl rfl rfl <| s_nil ?_
  refine W.cond (r1 != 0) rfl (fun c7z => ?_) (fun c7z => ?_)
  ·replace hM := M.e_t hM c7z
   simp only [qz1, qz2, qz3, qz4, qz5, qz6, ne_eq, qz7] at c7z
   refine W.seq <| W.region rfl <| sM (I r1) rfl <| sA (.slice none 0 0) rfl <| sA (I r1) rfl <| s_nil ?_
   refine W.ret ?_
   have hr_ := M.e_pure hM
   replace H : St w w3z [cOwn (α := Int) 3 (.slice none 0 0) ([])] R := H.nilOwn (α := Int) 3
   exact ⟨_, resE_tmp2 rfl, ⟨([]), r1, (.slice none 0 0), hr_, rfl, H⟩⟩
  replace hM := M.e_f hM c7z
  simp only [qz1, qz2, qz3, qz4, qz5, qz6, ne_eq, qz7] at c7z
  refine W.skip <| W.seq <| W.region rfl <| sM (.pointer none) rfl ?_
  exact (M.e_fail hM).elim
 subst hr5z
 subst vq
 try dsimp only at hM
 replace H : St w w3z [cBlk nb0_1 [Pz nb1_2, v_revised, I r02, .map (some nb3_4), .map (some nb4_5)] 180, cRo Bs2_3, cMap encG I nb3_4 r03, cMap I B nb4_5 r04] R := H.back H2_ rfl
 clear H2_
 refine sM (.tuple #[Pz nb0_1, I r12]) rfl <| s_val (x_ext (vs := [Pz nb0_1, I r12]) (v := Pz nb0_1) rfl rfl) <| s_val (x_ext (vs := [Pz nb0_1, I r12]) (v := I r12) rfl rfl) <| sA (Pz nb0_1) rfl <| sA (I r12) rfl <| s_nil <| W.seq <| W.seq <| W.region rfl <| sM (I r12) rfl <| sC r12 0 (r12 != 0) rfl rfl rfl <| s_nil ?_
 refine W.cond (r12 != 0) rfl (fun c8z => ?_) (fun c8z => ?_)
 ·replace hM := M.e_t hM c8z
  simp only [qz1, qz2, qz3, qz4, qz5, qz6, ne_eq, qz7] at c8z
  refine W.seq <| W.region rfl <| sM (I r12) rfl <| sA (.slice none 0 0) rfl <| sA (I r12) rfl <| s_nil ?_
  refine W.ret ?_
  have hr_ := M.e_pure hM
  replace H : St w w3z [cOwn (α := Int) 3 (.slice none 0 0) ([]), cBlk nb0_1 [Pz nb1_2, v_revised, I r02, .map (some nb3_4), .map (some nb4_5)] 180, cRo Bs2_3, cMap encG I nb3_4 r03, cMap I B nb4_5 r04] R := H.nilOwn (α := Int) 3
  exact ⟨_, resE_tmp2 rfl, ⟨([]), r12, (.slice none 0 0), hr_, rfl, (H.pick [0] (by decide) rfl)⟩⟩
 replace hM := M.e_f hM c8z
 simp only [qz1, qz2, qz3, qz4, qz5, qz6, ne_eq, qz7] at c8z
 refine W.skip <| W.seq <| W.region rfl <| sM (Pz nb0_1) rfl <| s_val (x_nc (a := ⟨nb0_1, 0, none⟩) rfl) <| s_val (x_fa (a := Pz nb0_1) (v := Oz nb0_1 4) rfl (fa_blk (o := 0) Fd180_4 Sz178)) <| s_val (x_ld (p := Oz nb0_1 4) (v := .map (some nb4_5)) rfl (ldb_sc Sc178 (H.blk (k := 0) rfl) rfl)) ?_
 refine t_clearm (i := 3) (kenc := I) (venc := B) (f := r04) (L' := [cBlk nb0_1 [Pz nb1_2, v_revised, I r02, .map (some nb3_4), .map (some nb4_5)] 180, cRo Bs2_3, cMap encG I nb3_4 r03, cMap I B nb4_5 (fun _ => none)]) (by rw [show (#[178] : Array TypeId)[0]?.bind Try.prog.underlying = Try.prog.underlying 178 from rfl, Try.underlying178]; rfl) H rfl rfl rfl ?_
 intro w9z H
 refine s_nil <| W.seq <| W.seq <| W.region rfl <| sM v_revised rfl ?_
 have hl10z := (hs_revised).len_le
 refine s_val (x_lenS T34.und rfl hs_revised) <| sM (I 0) rfl <| s_nil <| W.block ?_
 obtain ⟨ex11z, hi12z, hk13z⟩ := M.e_bind hM
 obtain ⟨m0_, hi12z⟩ := M.e_iter hi12z
 refine W.loop (fun m σ W => ∃ (mp : Gate → Option Int) (mp2 : Int → Option Bool) (s : Nat) (ρ : Env), σ = upds ρ [(0, v_w_), (8, Pz nb0_1), (28, v_revised), (29, I (revised.length : Int)), (30, I (s : Int))] ∧ M.iterN (m_notes_Freeze_b0 w_ revised r02) m (mp, mp2, s) = some ex11z ∧ St w W [cBlk nb0_1 [Pz nb1_2, v_revised, I r02, .map (some nb3_4), .map (some nb4_5)] 180, cRo Bs2_3, cMap encG I nb3_4 mp, cMap I B nb4_5 mp2] R) ?_ ?_
 ·exact ⟨_, r03, (fun _ => none), 0, _, upds_of _ _ ⟨rfl, rfl, rfl, rfl, rfl, trivial⟩, hi12z, H⟩
 rintro m16z σ w14z ⟨mp, mp2, s, ρ, rfl, hI15z, H⟩
 obtain ⟨m17z, lt18z, x19z, hM, hN20z⟩ := M.e_iterN hI15z
 simp only [m_notes_Freeze_b0] at hM
 clear hI15z
 refine W.seq <| W.region rfl <| sC (s : Int) (revised.length : Int) (decide ((s : Int) < (revised.length : Int))) rfl rfl rfl <| s_nil <| W.seq ?_
 refine W.cond (decide ((s : Int) < (revised.length : Int))) rfl (fun c21z => ?_) (fun c21z => ?_)
 ·replace hM := M.e_t hM c21z
  simp only [qz1, qz2, qz3, qz4, qz5, qz6, ne_eq, qz7] at c21z
  refine W.skip <| W.seq <| W.block <| W.seq <| W.region rfl ?_
  obtain ⟨sd22z, hM⟩ := M.e_grd hM
  simp only [Bool.and_eq_true, decide_eq_true_eq] at sd22z
  refine s_val (x_ix (a := v_revised) (b := I (s : Int)) (v := vat v_revised 1 (Int.toNat (s : Int))) rfl rfl (Sl.ix (α := Int) T34.und T34.size hs_revised (by omega) (by omega))) <| s_val (x_ld (p := vat v_revised 1 (Int.toNat (s : Int))) (v := I (revised.getD s 0)) rfl (ld_sc Sc3 (At.mono (Int_at hs_revised (i := (s : Int)) (by omega) (by omega)) (hC_revised.at H)))) <| sA (I (revised.getD s 0)) rfl <| s_nil <| W.region rfl <| sM (Pz nb0_1) rfl <| sM (I (revised.getD s 0)) rfl ?_
  obtain ⟨sd23z, hM⟩ := M.e_grd hM
  simp only [Bool.and_eq_true, decide_eq_true_eq] at sd23z
  refine s_val (x_ari (a := 2) (b := revised.getD s 0) (r := 2 * (revised.getD s 0)) rfl rfl rfl (by omega)) ?_
  obtain ⟨sd24z, hM⟩ := M.e_grd hM
  simp only [Bool.and_eq_true, decide_eq_true_eq] at sd24z
  refine s_val (x_ari (a := 2 * (revised.getD s 0)) (b := 1) (r := (2 * (revised.getD s 0)) + 1) rfl rfl rfl (by omega)) ?_
  obtain ⟨r26z, hx25z, hM⟩ := M.e_bind hM
  refine s_call cf126 [Pz nb0_1, I ((2 * (revised.getD s 0)) + 1)] rfl (notes_lanes_goes_ok w_ revised r02 mp mp2 ((2 * (revised.getD s 0)) + 1) (hC_w_.app _) hs_w_ (Has.ro (k := 1) rfl hf6z) (hC_revised.app _) hs_revised (Has.here (k := 0) rfl) hx25z _ (St.give (L := [cMap encG I nb3_4 mp, cMap I B nb4_5 mp2, cBlk nb0_1 [Pz nb1_2, v_revised, I r02, .map (some nb3_4), .map (some nb4_5)] 180, cRo Bs2_3]) (A := [cMap encG I nb3_4 mp, cMap I B nb4_5 mp2]) (T := [cBlk nb0_1 [Pz nb1_2, v_revised, I r02, .map (some nb3_4), .map (some nb4_5)] 180, cRo Bs2_3]) (H.pick [2, 3, 0, 1] (by decide) rfl) rfl)) ?_
  rintro vq w27z ⟨r2, q_b_n_room, q_b_n_met, hr28z, hvq, H2_⟩
  subst hr28z
  subst vq
  try dsimp only at hM
  replace H : St w w27z [cMap encG I nb3_4 q_b_n_room, cMap I B nb4_5 q_b_n_met, cBlk nb0_1 [Pz nb1_2, v_revised, I r02, .map (some nb3_4), .map (some nb4_5)] 180, cRo Bs2_3] R := H.pick [2, 3, 0, 1] (by decide) rfl |>.back H2_ rfl
  clear H2_
  refine s_nil <| W.region rfl <| s_val (x_ari (a := (s : Int)) (b := 1) (r := (s : Int) + 1) rfl rfl rfl (by omega)) <| sM (I ((s : Int) + 1)) rfl <| s_nil ?_
  exact ⟨m17z, lt18z, q_b_n_room, q_b_n_met, s + 1, _, upds_of _ _ ⟨rfl, rfl, rfl, rfl, rfl, trivial⟩, M.e_inl hM hN20z, (H.pick [2, 3, 0, 1] (by decide) rfl)⟩
 replace hM := M.e_f hM c21z
 simp only [qz1, qz2, qz3, qz4, qz5, qz6, ne_eq, qz7] at c21z
 refine W.exit ?_
 have hX29z := M.e_inr hM hN20z
 subst hX29z
 replace hM := hk13z
 try dsimp only at hM
 refine W.seq <| W.region rfl <| sA (.slice none 0 0) rfl <| s_nil <| W.seq <| W.seq <| W.region rfl <| sM v_w_ rfl ?_
 have hl30z := (hs_w_).len_le
 refine s_val (x_lenS T22.und rfl hs_w_) <| sM (I 0) rfl <| s_nil <| W.block ?_
 replace H : St w w14z [cOwn (α := Int) 3 (.slice none 0 0) ([]), cBlk nb0_1 [Pz nb1_2, v_revised, I r02, .map (some nb3_4), .map (some nb4_5)] 180, cRo Bs2_3, cMap encG I nb3_4 mp, cMap I B nb4_5 mp2] R := H.nilOwn (α := Int) 3
 obtain ⟨ex31z, hi32z, hk33z⟩ := M.e_bind hM
 obtain ⟨m0_, hi32z⟩ := M.e_iter hi32z
 refine W.loop (fun m σ W => ∃ (s2 : Nat) (l : List Int) (v_l : Value) (ρ : Env), σ = upds ρ [(8, Pz nb0_1), (12, v_l), (41, I (w_.length : Int)), (42, I (s2 : Int))] ∧ M.iterN (m_notes_Freeze_b1 w_ revised r02 mp mp2) m (s2, l) = some ex31z ∧ St w W [cOwn (α := Int) 3 v_l l, cBlk nb0_1 [Pz nb1_2, v_revised, I r02, .map (some nb3_4), .map (some nb4_5)] 180, cRo Bs2_3, cMap encG I nb3_4 mp, cMap I B nb4_5 mp2] R) ?_ ?_
 ·exact ⟨_, 0, [], (.slice none 0 0), _, upds_of _ _ ⟨rfl, rfl, rfl, rfl, trivial⟩, hi32z, H⟩
 rintro m36z σ w34z ⟨s2, l, v_l, ρ, rfl, hI35z, H⟩
 obtain ⟨m37z, lt38z, x39z, hM, hN40z⟩ := M.e_iterN hI35z
 simp only [m_notes_Freeze_b1] at hM
 clear hI35z
 refine W.seq <| W.region rfl <| sC (s2 : Int) (w_.length : Int) (decide ((s2 : Int) < (w_.length : Int))) rfl rfl rfl <| s_nil <| W.seq ?_
 refine W.cond (decide ((s2 : Int) < (w_.length : Int))) rfl (fun c41z => ?_) (fun c41z => ?_)
 ·replace hM := M.e_t hM c41z
  simp only [qz1, qz2, qz3, qz4, qz5, qz6, ne_eq, qz7] at c41z
  refine W.skip <| W.seq <| W.block <| W.seq <| W.region rfl <| sM (I (s2 : Int)) rfl <| sA (I (s2 : Int)) rfl <| s_nil <| W.seq <| W.region rfl <| sM (Pz nb0_1) rfl <| sM (I (s2 : Int)) rfl ?_
  obtain ⟨r43z, hx42z, hM⟩ := M.e_bind hM
  refine s_call cf127 [Pz nb0_1, I (s2 : Int)] rfl (notes_lanes_inner_ok w_ revised r02 mp mp2 (s2 : Int) (hC_w_.app _) hs_w_ (Has.ro (k := 2) rfl hf6z) (hC_revised.app _) hs_revised (Has.here (k := 3) rfl) (Has.here (k := 4) rfl) (Has.here (k := 1) rfl) hx42z _ (St.give (T := [cOwn (α := Int) 3 v_l l, cBlk nb0_1 [Pz nb1_2, v_revised, I r02, .map (some nb3_4), .map (some nb4_5)] 180, cRo Bs2_3, cMap encG I nb3_4 mp, cMap I B nb4_5 mp2]) H rfl)) ?_
  rintro vq w44z ⟨r3, hr45z, hvq, H2_⟩
  subst hr45z
  subst vq
  try dsimp only at hM
  replace H : St w w44z [cOwn (α := Int) 3 v_l l, cBlk nb0_1 [Pz nb1_2, v_revised, I r02, .map (some nb3_4), .map (some nb4_5)] 180, cRo Bs2_3, cMap encG I nb3_4 mp, cMap I B nb4_5 mp2] R := H.back H2_ rfl
  clear H2_
  refine sM (B r3) rfl <| g_val r3 (gy_t rfl) (fun hg => x_mv (v := Pz nb0_1) rfl) <| g_val r3 (gy_t rfl) (fun hg => x_nc (a := ⟨nb0_1, 0, none⟩) (gd_of (c := r3) hg (Pz nb0_1))) <| g_val r3 (gy_t rfl) (fun hg => x_fa (a := Pz nb0_1) (v := Oz nb0_1 4) (gd_of (c := r3) hg (Pz nb0_1)) (fa_blk (o := 0) Fd180_4 Sz178)) <| g_val r3 (gy_t rfl) (fun hg => x_ld (p := Oz nb0_1 4) (v := .map (some nb4_5)) (gd_of (c := r3) hg (Oz nb0_1 4)) (ldb_sc Sc178 (H.blk (k := 1) rfl) rfl)) <| g_val r3 (gy_t rfl) (fun hg => x_mv (v := I (s2 : Int)) rfl) ?_
  obtain ⟨sd46z, hM⟩ := M.e_grd hM
  replace sd46z := M.imp_of sd46z
  simp only [Bool.and_eq_true, decide_eq_true_eq] at sd46z
  refine g_val r3 (gy_t rfl) (fun hg => x_ari (a := 2) (b := (s2 : Int)) (r := 2 * (s2 : Int)) rfl (gd_of (c := r3) hg (I (s2 : Int))) rfl (by have h1_ := sd46z.resolve_left (by rw [hg]; decide); first | omega | (have hx_ := hg; simp at hx_; omega))) <| g_val r3 (gy_t rfl) (fun hg => q_look (kenc := I) (venc := B) (f := mp2) (k := (2 * (s2 : Int))) (v := B ((mp2 (2 * (s2 : Int))).getD false)) keyIntB Try.underlying178 Al4 (by exact (gd_of (c := r3) hg (.map (some nb4_5)))) (by exact (gd_of (c := r3) hg (I (2 * (s2 : Int))))) (H.get (k := 4) rfl) false (by rw [if_neg (by decide), bool_val])) <| s_val (x_pand (b := r3) (r := (mp2 (2 * (s2 : Int))).getD false) rfl (fun hb => gd_of (c := r3) (by simp_all) (B ((mp2 (2 * (s2 : Int))).getD false))) rfl) <| sM (B (r3 && ((mp2 (2 * (s2 : Int))).getD false))) rfl <| g_val (r3 && ((mp2 (2 * (s2 : Int))).getD false)) (gy_t rfl) (fun hg => x_mv (v := Pz nb0_1) rfl) <| g_val (r3 && ((mp2 (2 * (s2 : Int))).getD false)) (gy_t rfl) (fun hg => x_nc (a := ⟨nb0_1, 0, none⟩) (gd_of (c := (r3 && ((mp2 (2 * (s2 : Int))).getD false))) hg (Pz nb0_1))) <| g_val (r3 && ((mp2 (2 * (s2 : Int))).getD false)) (gy_t rfl) (fun hg => x_fa (a := Pz nb0_1) (v := Oz nb0_1 4) (gd_of (c := (r3 && ((mp2 (2 * (s2 : Int))).getD false))) hg (Pz nb0_1)) (fa_blk (o := 0) Fd180_4 Sz178)) <| g_val (r3 && ((mp2 (2 * (s2 : Int))).getD false)) (gy_t rfl) (fun hg => x_ld (p := Oz nb0_1 4) (v := .map (some nb4_5)) (gd_of (c := (r3 && ((mp2 (2 * (s2 : Int))).getD false))) hg (Oz nb0_1 4)) (ldb_sc Sc178 (H.blk (k := 1) rfl) rfl)) <| g_val (r3 && ((mp2 (2 * (s2 : Int))).getD false)) (gy_t rfl) (fun hg => x_mv (v := I (s2 : Int)) rfl) ?_
  obtain ⟨sd47z, hM⟩ := M.e_grd hM
  replace sd47z := M.imp_of sd47z
  simp only [Bool.and_eq_true, decide_eq_true_eq] at sd47z
  refine g_val (r3 && ((mp2 (2 * (s2 : Int))).getD false)) (gy_t rfl) (fun hg => x_ari (a := 2) (b := (s2 : Int)) (r := 2 * (s2 : Int)) rfl (gd_of (c := (r3 && ((mp2 (2 * (s2 : Int))).getD false))) hg (I (s2 : Int))) rfl (by have h1_ := sd47z.resolve_left (by rw [hg]; decide); first | omega | (have hx_ := hg; simp at hx_; omega))) ?_
  obtain ⟨sd48z, hM⟩ := M.e_grd hM
  replace sd48z := M.imp_of sd48z
  simp only [Bool.and_eq_true, decide_eq_true_eq] at sd48z
  refine g_val (r3 && ((mp2 (2 * (s2 : Int))).getD false)) (gy_t rfl) (fun hg => x_ari (a := 2 * (s2 : Int)) (b := 1) (r := (2 * (s2 : Int)) + 1) (gd_of (c := (r3 && ((mp2 (2 * (s2 : Int))).getD false))) hg (I (2 * (s2 : Int)))) rfl rfl (by have h1_ := sd47z.resolve_left (by rw [hg]; decide); have h2_ := sd48z.resolve_left (by rw [hg]; decide); first | omega | (have hx_ := hg; simp at hx_; omega))) <| g_val (r3 && ((mp2 (2 * (s2 : Int))).getD false)) (gy_t rfl) (fun hg => q_look (kenc := I) (venc := B) (f := mp2) (k := ((2 * (s2 : Int)) + 1 : Int)) (v := B ((mp2 ((2 * (s2 : Int)) + 1 : Int)).getD false)) keyIntB Try.underlying178 Al4 (by exact (gd_of (c := (r3 && ((mp2 (2 * (s2 : Int))).getD false))) hg (.map (some nb4_5)))) (by exact (gd_of (c := (r3 && ((mp2 (2 * (s2 : Int))).getD false))) hg (I ((2 * (s2 : Int)) + 1)))) (H.get (k := 4) rfl) false (by rw [if_neg (by decide), bool_val])) <| g_val (r3 && ((mp2 (2 * (s2 : Int))).getD false)) (gy_t rfl) (fun hg => x_not (b := (mp2 ((2 * (s2 : Int)) + 1 : Int)).getD false) (gd_of (c := (r3 && ((mp2 (2 * (s2 : Int))).getD false))) hg (B ((mp2 ((2 * (s2 : Int)) + 1 : Int)).getD false)))) <| s_val (x_pand (b := (r3 && ((mp2 (2 * (s2 : Int))).getD false))) (r := !((mp2 ((2 * (s2 : Int)) + 1 : Int)).getD false)) rfl (fun hb => gd_of (c := (r3 && ((mp2 (2 * (s2 : Int))).getD false))) (by simp_all) (B (!((mp2 ((2 * (s2 : Int)) + 1 : Int)).getD false)))) rfl) <| s_nil ?_
  refine W.cond ((r3 && ((mp2 (2 * (s2 : Int))).getD false)) && (!((mp2 ((2 * (s2 : Int)) + 1 : Int)).getD false))) rfl (fun c49z => ?_) (fun c49z => ?_)
  ·replace hM := M.e_t hM c49z
   refine W.region rfl <| sM v_l rfl <| sM (I (s2 : Int)) rfl ?_
   refine t_bs (α := Int) T34 [I (s2 : Int)] [(s2 : Int)] H rfl (.cons rfl (Flat.rep_enc _ (s2 : Int)) <| .nil) rfl rfl rfl ?_
   intro v50z w51z H
   obtain ⟨sd52z, hM⟩ := M.e_grd hM
   simp only [Bool.and_eq_true, decide_eq_true_eq] at sd52z
   refine t_app (α := Int) (k := 1) (l := l) (l2 := [(s2 : Int)]) (l' := l ++ ([(s2 : Int)])) (vy := v50z) T34 rfl H rfl rfl rfl (ownSl (H.get (k := 0) rfl)) (ownLe _ (H.get (k := 0) rfl)) (rfl) (by first | omega | (simp only [List.length_nil] at *; omega)) ?_
   intro v53z w54z H
   replace H : St w w54z [cOwn (α := Int) 3 v50z ([(s2 : Int)]), cOwn (α := Int) 3 v53z (l ++ ([(s2 : Int)])), cBlk nb0_1 [Pz nb1_2, v_revised, I r02, .map (some nb3_4), .map (some nb4_5)] 180, cRo Bs2_3, cMap encG I nb3_4 mp, cMap I B nb4_5 mp2] R := H
   refine sA v53z rfl <| s_nil <| W.region rfl <| s_val (x_ari (a := (s2 : Int)) (b := 1) (r := (s2 : Int) + 1) rfl rfl rfl (by omega)) <| sM (I ((s2 : Int) + 1)) rfl <| s_nil ?_
   exact ⟨m37z, lt38z, s2 + 1, l ++ ([(s2 : Int)]), v53z, _, upds_of _ _ ⟨rfl, rfl, rfl, rfl, trivial⟩, M.e_inl hM hN40z, (H.pick [1, 2, 3, 4, 5] (by decide) rfl)⟩
  replace hM := M.e_f hM c49z
  refine W.skip <| W.region rfl <| s_val (x_ari (a := (s2 : Int)) (b := 1) (r := (s2 : Int) + 1) rfl rfl rfl (by omega)) <| sM (I ((s2 : Int) + 1)) rfl <| s_nil ?_
  exact ⟨m37z, lt38z, s2 + 1, l, v_l, _, upds_of _ _ ⟨rfl, rfl, rfl, rfl, trivial⟩, M.e_inl hM hN40z, H⟩
 replace hM := M.e_f hM c41z
 simp only [qz1, qz2, qz3, qz4, qz5, qz6, ne_eq, qz7] at c41z
 refine W.exit ?_
 have hX55z := M.e_inr hM hN40z
 subst hX55z
 replace hM := hk33z
 try dsimp only at hM
 refine W.seq <| W.region rfl <| sM v_l rfl <| sA v_l rfl <| sA (I 0) rfl <| s_nil ?_
 refine W.ret ?_
 have hr_ := M.e_pure hM
 exact ⟨_, resE_tmp2 rfl, ⟨l, 0, v_l, hr_, rfl, (H.pick [0] (by decide) rfl)⟩⟩

def m_notes_Lines_1 (i : Int) (k : Int) (k0202 : List Work) (k021 : List Int) (k022 : Int) (k023 : Gate → Option Int) (k024 : Int → Option Bool) : M Bool :=
  M.grd (decide ((-9223372036854775808 : Int) ≤ (2 * k)) && decide ((2 * k) ≤ (9223372036854775807 : Int))) <|
  M.grd (decide ((-9223372036854775808 : Int) ≤ (2 * i)) && decide ((2 * i) ≤ (9223372036854775807 : Int))) <|
  M.grd (decide ((-9223372036854775808 : Int) ≤ ((2 * i) + 1)) && decide (((2 * i) + 1) ≤ (9223372036854775807 : Int))) <|
  M.pure (decide (0 < ((k023 (⟨(2 * k : Int), ((2 * i) + 1 : Int)⟩ : Gate)).getD 0)))
theorem notes_Lines_1_ok {R : List Chunk} {b_k0 : Nat} {b_k02 : Nat} {b_k020 : Nat} {C_k0202 : Cells} {v_k0202 : Value} {C_k021 : Cells} {v_k021 : Value} {b_k023 : Nat} {b_k024 : Nat} (i : Int) (k : Int) (k0202 : List Work) (k021 : List Int) (k022 : Int) (k023 : Gate → Option Int) (k024 : Int → Option Bool) (hC_k0202 : Reads R C_k0202) (hs_k0202 : Sl C_k0202 v_k0202 k0202) (h_b_k020 : Has R (cBlk b_k020 [v_k0202] 187)) (hC_k021 : Reads R C_k021) (hs_k021 : Sl C_k021 v_k021 k021) (h_b_k023 : Has R (cMap encG I b_k023 k023)) (h_b_k024 : Has R (cMap I B b_k024 k024)) (h_b_k02 : Has R (cBlk b_k02 [Pz b_k020, v_k021, I k022, .map (some b_k023), .map (some b_k024)] 180)) (h_b_k0 : Has R (cBlk b_k0 [Pz b_k02] 174)) {r : Bool} (hM : (m_notes_Lines_1 i k k0202 k021 k022 k023 k024).Ends r) (w : World) (H : St w w [] R) : Ret Try.prog 128 #[I i, I k, Pz b_k0] w fun v w' => ∃ (y0 : Bool), y0 = r ∧ v = B y0 ∧ St w w' [] R := by
 refine ret_of_W Try.func128 rfl rfl rfl ?_
 refine W.seq <| W.region rfl <| sA (B false) rfl <| s_nil <| W.seq <| W.region rfl <| s_val (x_ld (p := Pz b_k0) (v := Pz b_k02) rfl (ldb_sc Sc174 (h_b_k0.blk H) rfl)) <| s_val (x_nc (a := ⟨b_k02, 0, none⟩) rfl) <| s_val (x_fa (a := Pz b_k02) (v := Oz b_k02 3) rfl (fa_blk (o := 0) Fd180_3 Sz177)) <| s_val (x_ld (p := Oz b_k02 3) (v := .map (some b_k023)) rfl (ldb_sc Sc177 (h_b_k02.blk H) rfl)) <| sM (I k) rfl ?_
 obtain ⟨sd1z, hM⟩ := M.e_grd hM
 simp only [Bool.and_eq_true, decide_eq_true_eq] at sd1z
 refine s_val (x_ari (a := 2) (b := k) (r := 2 * k) rfl rfl rfl (by omega)) <| sM (I i) rfl ?_
 obtain ⟨sd2z, hM⟩ := M.e_grd hM
 simp only [Bool.and_eq_true, decide_eq_true_eq] at sd2z
 refine s_val (x_ari (a := 2) (b := i) (r := 2 * i) rfl rfl rfl (by omega)) ?_
 obtain ⟨sd3z, hM⟩ := M.e_grd hM
 simp only [Bool.and_eq_true, decide_eq_true_eq] at sd3z
 refine s_val (x_ari (a := 2 * i) (b := 1) (r := (2 * i) + 1) rfl rfl rfl (by omega)) <| s_val (x_bld (ps := [(0, I (2 * k)), (1, I ((2 * i) + 1))]) (zs := [I 0, I 0]) (L' := [I (2 * k), I ((2 * i) + 1)]) rfl Try.underlying182 Al182 rfl (Bd182 Try.underlying182) (.cons (cs := [I (2 * k)]) rfl rfl rfl rfl rfl <| .cons (cs := [I ((2 * i) + 1)]) rfl rfl rfl rfl rfl <| .nil)) <| s_val (q_look (kenc := encG) (venc := I) (f := k023) (k := (⟨(2 * k : Int), ((2 * i) + 1 : Int)⟩ : Gate)) (v := I ((k023 (⟨(2 * k : Int), ((2 * i) + 1 : Int)⟩ : Gate)).getD 0)) keyGate Try.underlying177 Al3 rfl rfl (h_b_k023.at H) false (by rw [if_neg (by decide), int_val])) <| sC ((k023 (⟨(2 * k : Int), ((2 * i) + 1 : Int)⟩ : Gate)).getD 0) 0 (decide (0 < ((k023 (⟨(2 * k : Int), ((2 * i) + 1 : Int)⟩ : Gate)).getD 0))) rfl rfl rfl <| sA (B (decide (0 < ((k023 (⟨(2 * k : Int), ((2 * i) + 1 : Int)⟩ : Gate)).getD 0)))) rfl <| s_nil ?_
 refine W.ret ?_
 have hr_ := M.e_pure hM
 exact ⟨_, resE_tmp rfl, ⟨(decide (0 < ((k023 (⟨(2 * k : Int), ((2 * i) + 1 : Int)⟩ : Gate)).getD 0))), hr_, rfl, H⟩⟩

def m_notes_Lines_2 (k : Int) (k020202 : List Work) (k02021 : List Int) (k02022 : Int) (k02023 : Gate → Option Int) (k02024 : Int → Option Bool) (k12 : Int) : M Bool :=
  M.bind (m_notes_Lines_1 k12 k k020202 k02021 k02022 k02023 k02024) fun r2 =>
  M.pure r2
theorem notes_Lines_2_ok {R : List Chunk} {b_k0 : Nat} {b_k020 : Nat} {b_k0202 : Nat} {b_k02020 : Nat} {C_k020202 : Cells} {v_k020202 : Value} {C_k02021 : Cells} {v_k02021 : Value} {b_k02023 : Nat} {b_k02024 : Nat} {b_k1 : Nat} (k : Int) (k020202 : List Work) (k02021 : List Int) (k02022 : Int) (k02023 : Gate → Option Int) (k02024 : Int → Option Bool) (k12 : Int) (hC_k020202 : Reads R C_k020202) (hs_k020202 : Sl C_k020202 v_k020202 k020202) (h_b_k02020 : Has R (cBlk b_k02020 [v_k020202] 187)) (hC_k02021 : Reads R C_k02021) (hs_k02021 : Sl C_k02021 v_k02021 k02021) (h_b_k02023 : Has R (cMap encG I b_k02023 k02023)) (h_b_k02024 : Has R (cMap I B b_k02024 k02024)) (h_b_k0202 : Has R (cBlk b_k0202 [Pz b_k02020, v_k02021, I k02022, .map (some b_k02023), .map (some b_k02024)] 180)) (h_b_k020 : Has R (cBlk b_k020 [Pz b_k0202] 174)) (h_b_k0 : Has R (cBlk b_k0 [.func (.func 128) #[] #[Pz b_k020]] 183)) (h_b_k1 : Has R (cBlk b_k1 [I k12] 3)) {r : Bool} (hM : (m_notes_Lines_2 k k020202 k02021 k02022 k02023 k02024 k12).Ends r) (w : World) (H : St w w [] R) : Ret Try.prog 129 #[I k, Pz b_k0, Pz b_k1] w fun v w' => ∃ (y0 : Bool), y0 = r ∧ v = B y0 ∧ St w w' [] R := by
 refine ret_of_W Try.func129 rfl rfl rfl ?_
 refine W.seq <| W.region rfl <| sA (B false) rfl <| s_nil <| W.seq <| W.region rfl <| s_val (x_ld (p := Pz b_k0) (v := .func (.func 128) #[] #[Pz b_k020]) rfl (ldb_sc Sc183 (h_b_k0.blk H) rfl)) <| s_val (x_ld (p := Pz b_k1) (v := I k12) rfl (ldb_sc Sc3 (h_b_k1.blk H) rfl)) <| sM (I k) rfl ?_
 obtain ⟨r2z, hx1z, hM⟩ := M.e_bind hM
 refine s_callv (f := 128) rfl cf128 [I k12, I k] rfl (notes_Lines_1_ok k12 k k020202 k02021 k02022 k02023 k02024 (hC_k020202.app _) hs_k020202 (h_b_k02020.app _) (hC_k02021.app _) hs_k02021 (h_b_k02023.app _) (h_b_k02024.app _) (h_b_k0202.app _) (h_b_k020.app _) hx1z _ (St.give (T := []) H rfl)) ?_
 rintro vq w3z ⟨r2, hr4z, hvq, H2_⟩
 subst hr4z
 subst vq
 try dsimp only at hM
 replace H : St w w3z [] R := H.back H2_ rfl
 clear H2_
 refine sA (B r2) rfl <| s_nil ?_
 refine W.ret ?_
 have hr_ := M.e_pure hM
 exact ⟨_, resE_tmp rfl, ⟨r2, hr_, rfl, H⟩⟩

def m_notes_Lines_b0 (w_ : List Work) : ((List Int) × Nat) → M (((List Int) × Nat) ⊕ ((List Int) × (List Int))) := fun (l, s) =>
  bif decide ((s : Int) < ((List.replicate (w_.length) (0 : Int)).length : Int)) then (
  M.grd (decide ((s : Int) < (l.length : Int))) <|
  M.pure (.inl (l.set s (s : Int), s + 1)))
  else (
  M.pure (.inr (l, l)))
def m_notes_Lines_b3 (l3 : List Int) : (Nat × (List (List Int))) → M ((Nat × (List (List Int))) ⊕ ((List (List Int)) × (List (List Int)))) := fun (s4, l10) =>
  bif decide ((s4 : Int) < (l3.length : Int)) then (
  M.grd (decide ((s4 : Int) < (l3.length : Int))) <|
  M.fail)
  else (
  M.pure (.inr (l10, l10)))
def m_notes_Lines_b4 (revised : List Int) (l3 : List Int) : (Nat × (List (List Int))) → M ((Nat × (List (List Int))) ⊕ ((List (List Int)) × (List (List Int)))) := fun (s2, l12) =>
  bif decide ((s2 : Int) < (revised.length : Int)) then (
  M.grd (decide ((s2 : Int) < (revised.length : Int))) <|
  M.bind (M.iter (m_notes_Lines_b3 l3) (0, l12)) fun (l8, l11) =>
  M.pure (.inl (s2 + 1, l11)))
  else (
  M.pure (.inr (l12, l12)))
def m_notes_Lines_b5 (w_ : List Work) : ((List Int) × Nat) → M (((List Int) × Nat) ⊕ ((List Int) × (List Int))) := fun (l, s) =>
  bif decide ((s : Int) < ((List.replicate (w_.length) (0 : Int)).length : Int)) then (
  M.grd (decide ((s : Int) < (l.length : Int))) <|
  M.pure (.inl (l.set s (s : Int), s + 1)))
  else (
  M.pure (.inr (l, l)))
def m_notes_Lines_b13 (w_ : List Work) (revised : List Int) (work : Int) (r02 : Int) (r03 : Gate → Option Int) (r04 : Int → Option Bool) (l3 : List Int) : ((List Int) × Int) → M (((List Int) × Int) ⊕ ((List Int) × (List Int))) := fun (l4, s3) =>
  bif s3 != work then (
  M.grd (decide ((l4.length + ([(s3 : Int)]).length) * 8 ≤ 140737488355328)) <|
  M.bind (m_slices_IndexFunc_int l3 (fun xqz => m_notes_Lines_2 xqz w_ revised r02 r03 r04 s3)) fun r4 =>
  M.pure (.inl (l4 ++ ([(s3 : Int)]), r4)))
  else (
  M.pure (.inr (l4, l4)))
def m_notes_Lines_b14 (w_ : List Work) (revised : List Int) (work : Int) (r02 : Int) (r03 : Gate → Option Int) (r04 : Int → Option Bool) (l3 : List Int) (s2 : Nat) : (Nat × (List (List Int))) → M ((Nat × (List (List Int))) ⊕ ((List (List Int)) × (List (List Int)))) := fun (s4, l10) =>
  bif decide ((s4 : Int) < (l3.length : Int)) then (
  M.grd (decide ((s4 : Int) < (l3.length : Int))) <|
  M.bind (m_notes_lanes_inner w_ revised r02 r03 r04 (l3.getD s4 0)) fun r2 =>
  M.bind (M.opt (!(!r2)) (m_notes_Lines_1 (revised.getD s2 0) (l3.getD s4 0) w_ revised r02 r03 r04) false) fun r3 =>
  bif ((!r2) || (!r3)) then (
  M.pure (.inl (s4 + 1, l10)))
  else (
  M.bind (M.iter (m_notes_Lines_b13 w_ revised work r02 r03 r04 l3) ([(revised.getD s2 0 : Int)], l3.getD s4 0)) fun (l5, l6) =>
  M.grd (decide ((l6.length + ([(work : Int)]).length) * 8 ≤ 140737488355328)) <|
  M.grd (decide ((l10.length + ([l6 ++ ([(work : Int)])]).length) * 24 ≤ 140737488355328)) <|
  M.pure (.inl (s4 + 1, l10 ++ ([l6 ++ ([(work : Int)])])))))
  else (
  M.pure (.inr (l10, l10)))
def m_notes_Lines_b15 (w_ : List Work) (revised : List Int) (work : Int) (r02 : Int) (r03 : Gate → Option Int) (r04 : Int → Option Bool) (l3 : List Int) : (Nat × (List (List Int))) → M ((Nat × (List (List Int))) ⊕ ((List (List Int)) × (List (List Int)))) := fun (s2, l12) =>
  bif decide ((s2 : Int) < (revised.length : Int)) then (
  M.grd (decide ((s2 : Int) < (revised.length : Int))) <|
  M.bind (M.iter (m_notes_Lines_b14 w_ revised work r02 r03 r04 l3 s2) (0, l12)) fun (l8, l11) =>
  M.pure (.inl (s2 + 1, l11)))
  else (
  M.pure (.inr (l12, l12)))
def m_notes_Lines (w_ : List Work) (revised : List Int) (work : Int) : M ((List (List Int)) × Int) :=
  M.bind (m_notes_full w_ revised work) fun x_ => match x_ with
  | (.inl r1) => (
  bif r1 != 0 then (
  M.pure (([]), r1))
  else (
  M.grd (decide ((0 : Int) ≤ (w_.length : Int)) && decide ((8 : Int) * (w_.length : Int) ≤ 281474976710656) && decide ((w_.length : Int) ≤ (9223372036854775807 : Int))) <|
  M.bind (M.iter (m_notes_Lines_b0 w_) (List.replicate (w_.length) (0 : Int), 0)) fun (l2, l3) =>
  M.bind (M.iter (m_notes_Lines_b4 revised l3) (0, [])) fun (l13, l14) =>
  M.pure (l14, 0)))
  | (.inr (r02, r03, r04, r12)) => (
  bif r12 != 0 then (
  M.pure (([]), r12))
  else (
  M.grd (decide ((0 : Int) ≤ (w_.length : Int)) && decide ((8 : Int) * (w_.length : Int) ≤ 281474976710656) && decide ((w_.length : Int) ≤ (9223372036854775807 : Int))) <|
  M.bind (M.iter (m_notes_Lines_b5 w_) (List.replicate (w_.length) (0 : Int), 0)) fun (l2, l3) =>
  M.bind (M.iter (m_notes_Lines_b15 w_ revised work r02 r03 r04 l3) (0, [])) fun (l13, l14) =>
  M.pure (l14, 0)))
theorem notes_Lines_ok {R : List Chunk} {C_w_ : Cells} {v_w_ : Value} {C_revised : Cells} {v_revised : Value} (w_ : List Work) (revised : List Int) (work : Int) (hC_w_ : Reads R C_w_) (hs_w_ : Sl C_w_ v_w_ w_) (hC_revised : Reads R C_revised) (hs_revised : Sl C_revised v_revised revised) {r : ((List (List Int)) × Int)} (hM : (m_notes_Lines w_ revised work).Ends r) (w : World) (H : St w w [] R) : Ret Try.prog 65 #[v_w_, v_revised, I work] w fun v w' => ∃ (y0 : List (List Int)) (y1 : Int) (u0 : Value) (rr1 : List (Raw 0)) (Bs2 : Base), (y0, y1) = r ∧ v = .tuple #[u0, I y1] ∧ St w w' [cOwn (α := Raw 0) 34 u0 rr1, cRo Bs2] R ∧ RepR (α := List Int) Bs2.cells rr1 y0 := by
 refine ret_of_W Try.func65 rfl rfl rfl ?_
 refine W.seq <| W.region rfl <| sA (.slice none 0 0) rfl <| sA (I 0) rfl <| s_nil <| W.seq <| W.region rfl <| sM v_w_ rfl <| sM v_revised rfl <| sM (I work) rfl ?_
 obtain ⟨r2z, hx1z, hM⟩ := M.e_bind hM
 refine s_call cf125 [v_w_, v_revised, I work] rfl (notes_full_ok w_ revised work (hC_w_.app _) hs_w_ (hC_revised.app _) hs_revised hx1z _ (St.give (T := []) H rfl)) ?_
 rintro vq w3z (⟨r1, hr4z, hvq, H2_⟩ | ⟨r02, r03, r04, r12, nb0_1, nb1_2, Bs2_3, nb3_4, nb4_5, hr5z, hvq, H2_, hf6z⟩)
 ·subst hr4z
  subst vq
  try dsimp only at hM
  replace H : St w w3z [] R := H.back H2_ rfl
  clear H2_
  refine sM (.tuple #[.pointer none, I r1]) rfl <| s_val (x_ext (vs := [.pointer none, I r1]) (v := .pointer none) rfl rfl) <| s_val (x_ext (vs := [.pointer none, I r1]) (v := I r1) rfl rfl) ?_
  refine t_alloc (cs := [.pointer none]) H Al174 rfl ?_
  intro b_6 w7z H
  refine t_st (k := 0) (b := b_6) (off := 0) (cs := [.pointer none]) (vs := [.pointer none]) (cs' := [.pointer none]) (v := .pointer none) (L' := [cBlk b_6 [.pointer none] 174]) H rfl rfl rfl Sz174 rfl rfl rfl rfl rfl rfl ?_
  intro w8z H
  refine sA (I r1) rfl <| s_nil <| W.seq <| W.seq <| W.region rfl <| sM (I r1) rfl <| sC r1 0 (r1 != 0) rfl rfl rfl <| s_nil ?_
  refine W.cond (r1 != 0) rfl (fun c9z => ?_) (fun c9z => ?_)
  ·replace hM := M.e_t hM c9z
   simp only [qz1, qz2, qz3, qz4, qz5, qz6, ne_eq, qz7] at c9z
   refine W.seq <| W.region rfl <| sM (I r1) rfl <| sA (.slice none 0 0) rfl <| sA (I r1) rfl <| s_nil ?_
   refine W.ret ?_
   have hr_ := M.e_pure hM
   obtain ⟨Bs_25, H⟩ := H.emptyE
   replace H : St w w8z [cOwn (α := Raw 0) 34 (.slice none 0 0) ([]), cRo Bs_25, cBlk b_6 [.pointer none] 174] R := H.nilOwn (α := Raw 0) 34
   have hr10z : RepR (α := List Int) (n := 0) Bs_25.cells [] [] := .nil
   exact ⟨_, resE_tmp2 rfl, ⟨([]), r1, (.slice none 0 0), [], Bs_25, hr_, rfl, (H.pick [0, 1] (by decide) rfl), hr10z⟩⟩
  replace hM := M.e_f hM c9z
  simp only [qz1, qz2, qz3, qz4, qz5, qz6, ne_eq, qz7] at c9z
  refine W.skip <| W.seq <| W.region rfl <| s_val (x_mf (fs := []) (cs := [Pz b_6]) rfl rfl) ?_
  refine t_alloc (cs := [.nilFunc]) H Al183 rfl ?_
  intro b_7 w11z H
  refine t_st (k := 0) (b := b_7) (off := 0) (cs := [.nilFunc]) (vs := [.func (.func 128) #[] #[Pz b_6]]) (cs' := [.func (.func 128) #[] #[Pz b_6]]) (v := .func (.func 128) #[] #[Pz b_6]) (L' := [cBlk b_7 [.func (.func 128) #[] #[Pz b_6]] 183, cBlk b_6 [.pointer none] 174]) H rfl rfl rfl Sz183 rfl rfl rfl rfl rfl rfl ?_
  intro w12z H
  refine s_nil <| W.seq <| W.region rfl <| sM v_w_ rfl ?_
  have hl13z := (hs_w_).len_le
  refine s_val (x_lenS T22.und rfl hs_w_) ?_
  obtain ⟨sd14z, hM⟩ := M.e_grd hM
  simp only [Bool.and_eq_true, decide_eq_true_eq] at sd14z
  refine t_mk (α := Int) T34 (0 : Int) rfl (n := (w_.length : Int)) H rfl rfl (by omega) (by omega) (by omega) ?_
  intro v15z w16z H
  replace H : St w w16z [cOwn (α := Int) 3 v15z (List.replicate (w_.length) (0 : Int)), cBlk b_7 [.func (.func 128) #[] #[Pz b_6]] 183, cBlk b_6 [.pointer none] 174] R := H
  refine sA v15z rfl <| s_nil <| W.seq <| W.seq <| W.region rfl <| sM v15z rfl ?_
  have hl17z := ((ownSl (H.get (k := 0) rfl))).len_le
  refine s_val (x_lenS T34.und rfl (ownSl (H.get (k := 0) rfl))) <| sM (I 0) rfl <| s_nil <| W.block ?_
  obtain ⟨ex18z, hi19z, hk20z⟩ := M.e_bind hM
  obtain ⟨m0_, hi19z⟩ := M.e_iter hi19z
  refine W.loop (fun m σ W => ∃ (l : List Int) (s : Nat) (v_l : Value) (ρ : Env), σ = upds ρ [(1, v_revised), (2, I work), (8, Pz b_6), (10, Pz b_7), (11, v_l), (35, I ((List.replicate (w_.length) (0 : Int)).length : Int)), (36, I (s : Int))] ∧ M.iterN (m_notes_Lines_b0 w_) m (l, s) = some ex18z ∧ St w W [cOwn (α := Int) 3 v_l l, cBlk b_7 [.func (.func 128) #[] #[Pz b_6]] 183, cBlk b_6 [.pointer none] 174] R) ?_ ?_
  ·exact ⟨_, List.replicate (w_.length) (0 : Int), 0, v15z, _, upds_of _ _ ⟨rfl, rfl, rfl, rfl, rfl, rfl, rfl, trivial⟩, hi19z, H⟩
  rintro m23z σ w21z ⟨l, s, v_l, ρ, rfl, hI22z, H⟩
  obtain ⟨m24z, lt25z, x26z, hM, hN27z⟩ := M.e_iterN hI22z
  simp only [m_notes_Lines_b0] at hM
  clear hI22z
  refine W.seq <| W.region rfl <| sC (s : Int) ((List.replicate (w_.length) (0 : Int)).length : Int) (decide ((s : Int) < ((List.replicate (w_.length) (0 : Int)).length : Int))) rfl rfl rfl <| s_nil <| W.seq ?_
  refine W.cond (decide ((s : Int) < ((List.replicate (w_.length) (0 : Int)).length : Int))) rfl (fun c28z => ?_) (fun c28z => ?_)
  ·replace hM := M.e_t hM c28z
   simp only [qz1, qz2, qz3, qz4, qz5, qz6, ne_eq, qz7] at c28z
   refine W.skip <| W.seq <| W.block <| W.seq <| W.region rfl <| sM (I (s : Int)) rfl <| sA (I (s : Int)) rfl <| s_nil <| W.region rfl <| sM v_l rfl <| sM (I (s : Int)) rfl <| sM (I (s : Int)) rfl ?_
   obtain ⟨sd29z, hM⟩ := M.e_grd hM
   simp only [Bool.and_eq_true, decide_eq_true_eq] at sd29z
   refine s_val (x_ix (a := v_l) (b := I (s : Int)) (v := vat v_l 1 (Int.toNat (s : Int))) rfl rfl (Sl.ix (α := Int) T34.und T34.size (ownSl (H.get (k := 0) rfl)) (by omega) (by omega))) ?_
   refine t_ost (k := 0) (i := (s : Int)) (l := l) (l' := l.set s (s : Int)) (val := I (s : Int)) (L' := [cOwn (α := Int) 3 v_l (l.set s (s : Int)), cBlk b_7 [.func (.func 128) #[] #[Pz b_6]] 183, cBlk b_6 [.pointer none] 174]) H rfl Sz3 (by omega) (by omega) (s : Int) rfl rfl rfl rfl rfl ?_
   intro w30z H
   refine s_nil <| W.region rfl <| s_val (x_ari (a := (s : Int)) (b := 1) (r := (s : Int) + 1) rfl rfl rfl (by omega)) <| sM (I ((s : Int) + 1)) rfl <| s_nil ?_
   exact ⟨m24z, lt25z, l.set s (s : Int), s + 1, v_l, _, upds_of _ _ ⟨rfl, rfl, rfl, rfl, rfl, rfl, rfl, trivial⟩, M.e_inl hM hN27z, H⟩
  replace hM := M.e_f hM c28z
  simp only [qz1, qz2, qz3, qz4, qz5, qz6, ne_eq, qz7] at c28z
  refine W.exit ?_
  have hX31z := M.e_inr hM hN27z
  subst hX31z
  replace hM := hk20z
  try dsimp only at hM
  refine W.seq <| W.region rfl <| sA (.slice none 0 0) rfl <| s_nil <| W.seq <| W.seq <| W.region rfl <| sM v_revised rfl ?_
  have hl32z := (hs_revised).len_le
  refine s_val (x_lenS T34.und rfl hs_revised) <| sM (I 0) rfl <| s_nil <| W.block ?_
  obtain ⟨Bs_23, H⟩ := H.emptyE
  replace H : St w w21z [cOwn (α := Raw 0) 34 (.slice none 0 0) ([]), cRo Bs_23, cOwn (α := Int) 3 v_l l, cBlk b_7 [.func (.func 128) #[] #[Pz b_6]] 183, cBlk b_6 [.pointer none] 174] R := H.nilOwn (α := Raw 0) 34
  have hr33z : RepR (α := List Int) (n := 0) Bs_23.cells [] [] := .nil
  obtain ⟨ex34z, hi35z, hk36z⟩ := M.e_bind hM
  obtain ⟨m0_, hi35z⟩ := M.e_iter hi35z
  refine W.loop (fun m σ W => ∃ (s2 : Nat) (l12 : List (List Int)) (v_l12 : Value) (rw_l12 : List (Raw 0)) (B_l12 : Base) (ρ : Env), σ = upds ρ [(2, I work), (8, Pz b_6), (10, Pz b_7), (11, v_l), (13, v_l12), (44, v_revised), (45, I (revised.length : Int)), (46, I (s2 : Int))] ∧ M.iterN (m_notes_Lines_b4 revised l) m (s2, l12) = some ex34z ∧ St w W [cOwn (α := Raw 0) 34 v_l12 rw_l12, cRo B_l12, cOwn (α := Int) 3 v_l l, cBlk b_7 [.func (.func 128) #[] #[Pz b_6]] 183, cBlk b_6 [.pointer none] 174] R ∧ RepR (α := List Int) B_l12.cells rw_l12 l12) ?_ ?_
  ·exact ⟨_, 0, [], (.slice none 0 0), [], Bs_23, _, upds_of _ _ ⟨rfl, rfl, rfl, rfl, rfl, rfl, rfl, rfl, trivial⟩, hi35z, H, hr33z⟩
  rintro m39z σ w37z ⟨s2, l12, v_l12, rw_l12, B_l12, ρ, rfl, hI38z, H, hr_l12⟩
  obtain ⟨m40z, lt41z, x42z, hM, hN43z⟩ := M.e_iterN hI38z
  simp only [m_notes_Lines_b4] at hM
  clear hI38z
  refine W.seq <| W.region rfl <| sC (s2 : Int) (revised.length : Int) (decide ((s2 : Int) < (revised.length : Int))) rfl rfl rfl <| s_nil <| W.seq ?_
  refine W.cond (decide ((s2 : Int) < (revised.length : Int))) rfl (fun c44z => ?_) (fun c44z => ?_)
  ·replace hM := M.e_t hM c44z
   simp only [qz1, qz2, qz3, qz4, qz5, qz6, ne_eq, qz7] at c44z
   refine W.skip <| W.seq <| W.block <| W.seq <| W.region rfl ?_
   obtain ⟨sd45z, hM⟩ := M.e_grd hM
   simp only [Bool.and_eq_true, decide_eq_true_eq] at sd45z
   refine s_val (x_ix (a := v_revised) (b := I (s2 : Int)) (v := vat v_revised 1 (Int.toNat (s2 : Int))) rfl rfl (Sl.ix (α := Int) T34.und T34.size hs_revised (by omega) (by omega))) <| s_val (x_ld (p := vat v_revised 1 (Int.toNat (s2 : Int))) (v := I (revised.getD s2 0)) rfl (ld_sc Sc3 (At.mono (Int_at hs_revised (i := (s2 : Int)) (by omega) (by omega)) (hC_revised.at H)))) <| sA (I (revised.getD s2 0)) rfl <| s_nil <| W.seq <| W.region rfl <| sM v_l rfl ?_
   have hl46z := ((ownSl (H.get (k := 2) rfl))).len_le
   refine s_val (x_lenS T34.und rfl (ownSl (H.get (k := 2) rfl))) <| sM (I 0) rfl <| s_nil <| W.block ?_
   obtain ⟨ex47z, hi48z, hk49z⟩ := M.e_bind hM
   obtain ⟨m0_, hi48z⟩ := M.e_iter hi48z
   refine W.loop (fun m σ W => ∃ (s4 : Nat) (l10 : List (List Int)) (v_l10 : Value) (rw_l10 : List (Raw 0)) (B_l10 : Base) (ρ : Env), σ = upds ρ [(2, I work), (8, Pz b_6), (10, Pz b_7), (11, v_l), (13, v_l10), (15, I (revised.getD s2 0)), (44, v_revised), (45, I (revised.length : Int)), (46, I (s2 : Int)), (50, v_l), (51, I (l.length : Int)), (52, I (s4 : Int))] ∧ M.iterN (m_notes_Lines_b3 l) m (s4, l10) = some ex47z ∧ St w W [cOwn (α := Raw 0) 34 v_l10 rw_l10, cRo B_l10, cOwn (α := Int) 3 v_l l, cBlk b_7 [.func (.func 128) #[] #[Pz b_6]] 183, cBlk b_6 [.pointer none] 174] R ∧ RepR (α := List Int) B_l10.cells rw_l10 l10) ?_ ?_
   ·exact ⟨_, 0, l12, v_l12, rw_l12, B_l12, _, upds_of _ _ ⟨rfl, rfl, rfl, rfl, rfl, rfl, rfl, rfl, rfl, rfl, rfl, rfl, trivial⟩, hi48z, H, hr_l12⟩
   rintro m52z σ w50z ⟨s4, l10, v_l10, rw_l10, B_l10, ρ, rfl, hI51z, H, hr_l10⟩
   obtain ⟨m53z, lt54z, x55z, hM, hN56z⟩ := M.e_iterN hI51z
   simp only [m_notes_Lines_b3] at hM
   clear hI51z
   refine W.seq <| W.region rfl <| sC (s4 : Int) (l.length : Int) (decide ((s4 : Int) < (l.length : Int))) rfl rfl rfl <| s_nil <| W.seq ?_
   refine W.cond (decide ((s4 : Int) < (l.length : Int))) rfl (fun c57z => ?_) (fun c57z => ?_)
   ·replace hM := M.e_t hM c57z
    simp only [qz1, qz2, qz3, qz4, qz5, qz6, ne_eq, qz7] at c57z
    refine W.skip <| W.seq <| W.block <| W.seq <| W.region rfl ?_
    obtain ⟨sd58z, hM⟩ := M.e_grd hM
    simp only [Bool.and_eq_true, decide_eq_true_eq] at sd58z
    refine s_val (x_ix (a := v_l) (b := I (s4 : Int)) (v := vat v_l 1 (Int.toNat (s4 : Int))) rfl rfl (Sl.ix (α := Int) T34.und T34.size (ownSl (H.get (k := 2) rfl)) (by omega) (by omega))) <| s_val (x_ld (p := vat v_l 1 (Int.toNat (s4 : Int))) (v := I (l.getD s4 0)) rfl (ld_sc Sc3 (At.mono (Int_at (ownSl (H.get (k := 2) rfl)) (i := (s4 : Int)) (by omega) (by omega)) (ownLe _ (H.get (k := 2) rfl))))) <| sA (I (l.getD s4 0)) rfl <| s_nil <| W.seq <| W.seq <| W.region rfl <| s_val (x_ld (p := Pz b_6) (v := .pointer none) rfl (ldb_sc Sc174 (H.blk (k := 4) rfl) rfl)) <| sM (I (l.getD s4 0)) rfl ?_
    exact (M.e_fail hM).elim
   replace hM := M.e_f hM c57z
   simp only [qz1, qz2, qz3, qz4, qz5, qz6, ne_eq, qz7] at c57z
   refine W.exit ?_
   have hX59z := M.e_inr hM hN56z
   subst hX59z
   replace hM := hk49z
   try dsimp only at hM
   refine W.region rfl <| s_val (x_ari (a := (s2 : Int)) (b := 1) (r := (s2 : Int) + 1) rfl rfl rfl (by omega)) <| sM (I ((s2 : Int) + 1)) rfl <| s_nil ?_
   exact ⟨m40z, lt41z, s2 + 1, l10, v_l10, rw_l10, B_l10, _, upds_of _ _ ⟨rfl, rfl, rfl, rfl, rfl, rfl, rfl, rfl, trivial⟩, M.e_inl hM hN43z, H, hr_l10⟩
  replace hM := M.e_f hM c44z
  simp only [qz1, qz2, qz3, qz4, qz5, qz6, ne_eq, qz7] at c44z
  refine W.exit ?_
  have hX60z := M.e_inr hM hN43z
  subst hX60z
  replace hM := hk36z
  try dsimp only at hM
  refine W.seq <| W.region rfl <| sM v_l12 rfl <| sA v_l12 rfl <| sA (I 0) rfl <| s_nil ?_
  refine W.ret ?_
  have hr_ := M.e_pure hM
  exact ⟨_, resE_tmp2 rfl, ⟨l12, 0, v_l12, rw_l12, B_l12, hr_, rfl, (H.pick [0, 1] (by decide) rfl), hr_l12⟩⟩
 subst hr5z
 subst vq
 try dsimp only at hM
 replace H : St w w3z [cBlk nb0_1 [Pz nb1_2, v_revised, I r02, .map (some nb3_4), .map (some nb4_5)] 180, cRo Bs2_3, cMap encG I nb3_4 r03, cMap I B nb4_5 r04] R := H.back H2_ rfl
 clear H2_
 refine sM (.tuple #[Pz nb0_1, I r12]) rfl <| s_val (x_ext (vs := [Pz nb0_1, I r12]) (v := Pz nb0_1) rfl rfl) <| s_val (x_ext (vs := [Pz nb0_1, I r12]) (v := I r12) rfl rfl) ?_
 refine t_alloc (cs := [.pointer none]) H Al174 rfl ?_
 intro b_6 w61z H
 refine t_st (k := 0) (b := b_6) (off := 0) (cs := [.pointer none]) (vs := [Pz nb0_1]) (cs' := [Pz nb0_1]) (v := Pz nb0_1) (L' := [cBlk b_6 [Pz nb0_1] 174, cBlk nb0_1 [Pz nb1_2, v_revised, I r02, .map (some nb3_4), .map (some nb4_5)] 180, cRo Bs2_3, cMap encG I nb3_4 r03, cMap I B nb4_5 r04]) H rfl rfl rfl Sz174 rfl rfl rfl rfl rfl rfl ?_
 intro w62z H
 refine sA (I r12) rfl <| s_nil <| W.seq <| W.seq <| W.region rfl <| sM (I r12) rfl <| sC r12 0 (r12 != 0) rfl rfl rfl <| s_nil ?_
 refine W.cond (r12 != 0) rfl (fun c63z => ?_) (fun c63z => ?_)
 ·replace hM := M.e_t hM c63z
  simp only [qz1, qz2, qz3, qz4, qz5, qz6, ne_eq, qz7] at c63z
  refine W.seq <| W.region rfl <| sM (I r12) rfl <| sA (.slice none 0 0) rfl <| sA (I r12) rfl <| s_nil ?_
  refine W.ret ?_
  have hr_ := M.e_pure hM
  obtain ⟨Bs_25, H⟩ := H.emptyE
  replace H : St w w62z [cOwn (α := Raw 0) 34 (.slice none 0 0) ([]), cRo Bs_25, cBlk b_6 [Pz nb0_1] 174, cBlk nb0_1 [Pz nb1_2, v_revised, I r02, .map (some nb3_4), .map (some nb4_5)] 180, cRo Bs2_3, cMap encG I nb3_4 r03, cMap I B nb4_5 r04] R := H.nilOwn (α := Raw 0) 34
  have hr64z : RepR (α := List Int) (n := 0) Bs_25.cells [] [] := .nil
  exact ⟨_, resE_tmp2 rfl, ⟨([]), r12, (.slice none 0 0), [], Bs_25, hr_, rfl, (H.pick [0, 1] (by decide) rfl), hr64z⟩⟩
 replace hM := M.e_f hM c63z
 simp only [qz1, qz2, qz3, qz4, qz5, qz6, ne_eq, qz7] at c63z
 refine W.skip <| W.seq <| W.region rfl <| s_val (x_mf (fs := []) (cs := [Pz b_6]) rfl rfl) ?_
 refine t_alloc (cs := [.nilFunc]) H Al183 rfl ?_
 intro b_7 w65z H
 refine t_st (k := 0) (b := b_7) (off := 0) (cs := [.nilFunc]) (vs := [.func (.func 128) #[] #[Pz b_6]]) (cs' := [.func (.func 128) #[] #[Pz b_6]]) (v := .func (.func 128) #[] #[Pz b_6]) (L' := [cBlk b_7 [.func (.func 128) #[] #[Pz b_6]] 183, cBlk b_6 [Pz nb0_1] 174, cBlk nb0_1 [Pz nb1_2, v_revised, I r02, .map (some nb3_4), .map (some nb4_5)] 180, cRo Bs2_3, cMap encG I nb3_4 r03, cMap I B nb4_5 r04]) H rfl rfl rfl Sz183 rfl rfl rfl rfl rfl rfl ?_
 intro w66z H
 refine s_nil <| W.seq <| W.region rfl <| sM v_w_ rfl ?_
 have hl67z := (hs_w_).len_le
 refine s_val (x_lenS T22.und rfl hs_w_) ?_
 obtain ⟨sd68z, hM⟩ := M.e_grd hM
 simp only [Bool.and_eq_true, decide_eq_true_eq] at sd68z
 refine t_mk (α := Int) T34 (0 : Int) rfl (n := (w_.length : Int)) H rfl rfl (by omega) (by omega) (by omega) ?_
 intro v69z w70z H
 replace H : St w w70z [cOwn (α := Int) 3 v69z (List.replicate (w_.length) (0 : Int)), cBlk b_7 [.func (.func 128) #[] #[Pz b_6]] 183, cBlk b_6 [Pz nb0_1] 174, cBlk nb0_1 [Pz nb1_2, v_revised, I r02, .map (some nb3_4), .map (some nb4_5)] 180, cRo Bs2_3, cMap encG I nb3_4 r03, cMap I B nb4_5 r04] R := H
 refine sA v69z rfl <| s_nil <| W.seq <| W.seq <| W.region rfl <| sM v69z rfl ?_
 have hl71z := ((ownSl (H.get (k := 0) rfl))).len_le
 refine s_val (x_lenS T34.und rfl (ownSl (H.get (k := 0) rfl))) <| sM (I 0) rfl <| s_nil <| W.block ?_
 obtain ⟨ex72z, hi73z, hk74z⟩ := M.e_bind hM
 obtain ⟨m0_, hi73z⟩ := M.e_iter hi73z
 refine W.loop (fun m σ W => ∃ (l : List Int) (s : Nat) (v_l : Value) (ρ : Env), σ = upds ρ [(1, v_revised), (2, I work), (8, Pz b_6), (10, Pz b_7), (11, v_l), (35, I ((List.replicate (w_.length) (0 : Int)).length : Int)), (36, I (s : Int))] ∧ M.iterN (m_notes_Lines_b5 w_) m (l, s) = some ex72z ∧ St w W [cOwn (α := Int) 3 v_l l, cBlk b_7 [.func (.func 128) #[] #[Pz b_6]] 183, cBlk b_6 [Pz nb0_1] 174, cBlk nb0_1 [Pz nb1_2, v_revised, I r02, .map (some nb3_4), .map (some nb4_5)] 180, cRo Bs2_3, cMap encG I nb3_4 r03, cMap I B nb4_5 r04] R) ?_ ?_
 ·exact ⟨_, List.replicate (w_.length) (0 : Int), 0, v69z, _, upds_of _ _ ⟨rfl, rfl, rfl, rfl, rfl, rfl, rfl, trivial⟩, hi73z, H⟩
 rintro m77z σ w75z ⟨l, s, v_l, ρ, rfl, hI76z, H⟩
 obtain ⟨m78z, lt79z, x80z, hM, hN81z⟩ := M.e_iterN hI76z
 simp only [m_notes_Lines_b5] at hM
 clear hI76z
 refine W.seq <| W.region rfl <| sC (s : Int) ((List.replicate (w_.length) (0 : Int)).length : Int) (decide ((s : Int) < ((List.replicate (w_.length) (0 : Int)).length : Int))) rfl rfl rfl <| s_nil <| W.seq ?_
 refine W.cond (decide ((s : Int) < ((List.replicate (w_.length) (0 : Int)).length : Int))) rfl (fun c82z => ?_) (fun c82z => ?_)
 ·replace hM := M.e_t hM c82z
  simp only [qz1, qz2, qz3, qz4, qz5, qz6, ne_eq, qz7] at c82z
  refine W.skip <| W.seq <| W.block <| W.seq <| W.region rfl <| sM (I (s : Int)) rfl <| sA (I (s : Int)) rfl <| s_nil <| W.region rfl <| sM v_l rfl <| sM (I (s : Int)) rfl <| sM (I (s : Int)) rfl ?_
  obtain ⟨sd83z, hM⟩ := M.e_grd hM
  simp only [Bool.and_eq_true, decide_eq_true_eq] at sd83z
  refine s_val (x_ix (a := v_l) (b := I (s : Int)) (v := vat v_l 1 (Int.toNat (s : Int))) rfl rfl (Sl.ix (α := Int) T34.und T34.size (ownSl (H.get (k := 0) rfl)) (by omega) (by omega))) ?_
  refine t_ost (k := 0) (i := (s : Int)) (l := l) (l' := l.set s (s : Int)) (val := I (s : Int)) (L' := [cOwn (α := Int) 3 v_l (l.set s (s : Int)), cBlk b_7 [.func (.func 128) #[] #[Pz b_6]] 183, cBlk b_6 [Pz nb0_1] 174, cBlk nb0_1 [Pz nb1_2, v_revised, I r02, .map (some nb3_4), .map (some nb4_5)] 180, cRo Bs2_3, cMap encG I nb3_4 r03, cMap I B nb4_5 r04]) H rfl Sz3 (by omega) (by omega) (s : Int) rfl rfl rfl rfl rfl ?_
  intro w84z H
  refine s_nil <| W.region rfl <| s_val (x_ari (a := (s : Int)) (b := 1) (r := (s : Int) + 1) rfl rfl rfl (by omega)) <| sM (I ((s : Int) + 1)) rfl <| s_nil ?_
  exact ⟨m78z, lt79z, l.set s (s : Int), s + 1, v_l, _, upds_of _ _ ⟨rfl, rfl, rfl, rfl, rfl, rfl, rfl, trivial⟩, M.e_inl hM hN81z, H⟩
 replace hM := M.e_f hM c82z
 simp only [qz1, qz2, qz3, qz4, qz5, qz6, ne_eq, qz7] at c82z
 refine W.exit ?_
 have hX85z := M.e_inr hM hN81z
 subst hX85z
 replace hM := hk74z
 try dsimp only at hM
 refine W.seq <| W.region rfl <| sA (.slice none 0 0) rfl <| s_nil <| W.seq <| W.seq <| W.region rfl <| sM v_revised rfl ?_
 have hl86z := (hs_revised).len_le
 refine s_val (x_lenS T34.und rfl hs_revised) <| sM (I 0) rfl <| s_nil <| W.block ?_
 obtain ⟨Bs_23, H⟩ := H.emptyE
 replace H : St w w75z [cOwn (α := Raw 0) 34 (.slice none 0 0) ([]), cRo Bs_23, cOwn (α := Int) 3 v_l l, cBlk b_7 [.func (.func 128) #[] #[Pz b_6]] 183, cBlk b_6 [Pz nb0_1] 174, cBlk nb0_1 [Pz nb1_2, v_revised, I r02, .map (some nb3_4), .map (some nb4_5)] 180, cRo Bs2_3, cMap encG I nb3_4 r03, cMap I B nb4_5 r04] R := H.nilOwn (α := Raw 0) 34
 have hr87z : RepR (α := List Int) (n := 0) Bs_23.cells [] [] := .nil
 obtain ⟨ex88z, hi89z, hk90z⟩ := M.e_bind hM
 obtain ⟨m0_, hi89z⟩ := M.e_iter hi89z
 refine W.loop (fun m σ W => ∃ (s2 : Nat) (l12 : List (List Int)) (v_l12 : Value) (rw_l12 : List (Raw 0)) (B_l12 : Base) (ρ : Env), σ = upds ρ [(2, I work), (8, Pz b_6), (10, Pz b_7), (11, v_l), (13, v_l12), (44, v_revised), (45, I (revised.length : Int)), (46, I (s2 : Int))] ∧ M.iterN (m_notes_Lines_b15 w_ revised work r02 r03 r04 l) m (s2, l12) = some ex88z ∧ St w W [cOwn (α := Raw 0) 34 v_l12 rw_l12, cRo B_l12, cOwn (α := Int) 3 v_l l, cBlk b_7 [.func (.func 128) #[] #[Pz b_6]] 183, cBlk b_6 [Pz nb0_1] 174, cBlk nb0_1 [Pz nb1_2, v_revised, I r02, .map (some nb3_4), .map (some nb4_5)] 180, cRo Bs2_3, cMap encG I nb3_4 r03, cMap I B nb4_5 r04] R ∧ RepR (α := List Int) B_l12.cells rw_l12 l12) ?_ ?_
 ·exact ⟨_, 0, [], (.slice none 0 0), [], Bs_23, _, upds_of _ _ ⟨rfl, rfl, rfl, rfl, rfl, rfl, rfl, rfl, trivial⟩, hi89z, H, hr87z⟩
 rintro m93z σ w91z ⟨s2, l12, v_l12, rw_l12, B_l12, ρ, rfl, hI92z, H, hr_l12⟩
 obtain ⟨m94z, lt95z, x96z, hM, hN97z⟩ := M.e_iterN hI92z
 simp only [m_notes_Lines_b15] at hM
 clear hI92z
 refine W.seq <| W.region rfl <| sC (s2 : Int) (revised.length : Int) (decide ((s2 : Int) < (revised.length : Int))) rfl rfl rfl <| s_nil <| W.seq ?_
 refine W.cond (decide ((s2 : Int) < (revised.length : Int))) rfl (fun c98z => ?_) (fun c98z => ?_)
 ·replace hM := M.e_t hM c98z
  simp only [qz1, qz2, qz3, qz4, qz5, qz6, ne_eq, qz7] at c98z
  refine W.skip <| W.seq <| W.block <| W.seq <| W.region rfl ?_
  obtain ⟨sd99z, hM⟩ := M.e_grd hM
  simp only [Bool.and_eq_true, decide_eq_true_eq] at sd99z
  refine s_val (x_ix (a := v_revised) (b := I (s2 : Int)) (v := vat v_revised 1 (Int.toNat (s2 : Int))) rfl rfl (Sl.ix (α := Int) T34.und T34.size hs_revised (by omega) (by omega))) <| s_val (x_ld (p := vat v_revised 1 (Int.toNat (s2 : Int))) (v := I (revised.getD s2 0)) rfl (ld_sc Sc3 (At.mono (Int_at hs_revised (i := (s2 : Int)) (by omega) (by omega)) (hC_revised.at H)))) <| sA (I (revised.getD s2 0)) rfl <| s_nil <| W.seq <| W.region rfl <| sM v_l rfl ?_
  have hl100z := ((ownSl (H.get (k := 2) rfl))).len_le
  refine s_val (x_lenS T34.und rfl (ownSl (H.get (k := 2) rfl))) <| sM (I 0) rfl <| s_nil <| W.block ?_
  obtain ⟨ex101z, hi102z, hk103z⟩ := M.e_bind hM
  obtain ⟨m0_, hi102z⟩ := M.e_iter hi102z
  refine W.loop (fun m σ W => ∃ (s4 : Nat) (l10 : List (List Int)) (v_l10 : Value) (rw_l10 : List (Raw 0)) (B_l10 : Base) (ρ : Env), σ = upds ρ [(2, I work), (8, Pz b_6), (10, Pz b_7), (11, v_l), (13, v_l10), (15, I (revised.getD s2 0)), (44, v_revised), (45, I (revised.length : Int)), (46, I (s2 : Int)), (50, v_l), (51, I (l.length : Int)), (52, I (s4 : Int))] ∧ M.iterN (m_notes_Lines_b14 w_ revised work r02 r03 r04 l s2) m (s4, l10) = some ex101z ∧ St w W [cOwn (α := Raw 0) 34 v_l10 rw_l10, cRo B_l10, cOwn (α := Int) 3 v_l l, cBlk b_7 [.func (.func 128) #[] #[Pz b_6]] 183, cBlk b_6 [Pz nb0_1] 174, cBlk nb0_1 [Pz nb1_2, v_revised, I r02, .map (some nb3_4), .map (some nb4_5)] 180, cRo Bs2_3, cMap encG I nb3_4 r03, cMap I B nb4_5 r04] R ∧ RepR (α := List Int) B_l10.cells rw_l10 l10) ?_ ?_
  ·exact ⟨_, 0, l12, v_l12, rw_l12, B_l12, _, upds_of _ _ ⟨rfl, rfl, rfl, rfl, rfl, rfl, rfl, rfl, rfl, rfl, rfl, rfl, trivial⟩, hi102z, H, hr_l12⟩
  rintro m106z σ w104z ⟨s4, l10, v_l10, rw_l10, B_l10, ρ, rfl, hI105z, H, hr_l10⟩
  obtain ⟨m107z, lt108z, x109z, hM, hN110z⟩ := M.e_iterN hI105z
  simp only [m_notes_Lines_b14] at hM
  clear hI105z
  refine W.seq <| W.region rfl <| sC (s4 : Int) (l.length : Int) (decide ((s4 : Int) < (l.length : Int))) rfl rfl rfl <| s_nil <| W.seq ?_
  refine W.cond (decide ((s4 : Int) < (l.length : Int))) rfl (fun c111z => ?_) (fun c111z => ?_)
  ·replace hM := M.e_t hM c111z
   simp only [qz1, qz2, qz3, qz4, qz5, qz6, ne_eq, qz7] at c111z
   refine W.skip <| W.seq <| W.block <| W.seq <| W.region rfl ?_
   obtain ⟨sd112z, hM⟩ := M.e_grd hM
   simp only [Bool.and_eq_true, decide_eq_true_eq] at sd112z
   refine s_val (x_ix (a := v_l) (b := I (s4 : Int)) (v := vat v_l 1 (Int.toNat (s4 : Int))) rfl rfl (Sl.ix (α := Int) T34.und T34.size (ownSl (H.get (k := 2) rfl)) (by omega) (by omega))) <| s_val (x_ld (p := vat v_l 1 (Int.toNat (s4 : Int))) (v := I (l.getD s4 0)) rfl (ld_sc Sc3 (At.mono (Int_at (ownSl (H.get (k := 2) rfl)) (i := (s4 : Int)) (by omega) (by omega)) (ownLe _ (H.get (k := 2) rfl))))) <| sA (I (l.getD s4 0)) rfl <| s_nil <| W.seq <| W.seq <| W.region rfl <| s_val (x_ld (p := Pz b_6) (v := Pz nb0_1) rfl (ldb_sc Sc174 (H.blk (k := 4) rfl) rfl)) <| sM (I (l.getD s4 0)) rfl ?_
   obtain ⟨r114z, hx113z, hM⟩ := M.e_bind hM
   refine s_call cf127 [Pz nb0_1, I (l.getD s4 0)] rfl (notes_lanes_inner_ok w_ revised r02 r03 r04 (l.getD s4 0) (hC_w_.app _) hs_w_ (Has.ro (k := 6) rfl hf6z) (hC_revised.app _) hs_revised (Has.here (k := 7) rfl) (Has.here (k := 8) rfl) (Has.here (k := 5) rfl) hx113z _ (St.give (T := [cOwn (α := Raw 0) 34 v_l10 rw_l10, cRo B_l10, cOwn (α := Int) 3 v_l l, cBlk b_7 [.func (.func 128) #[] #[Pz b_6]] 183, cBlk b_6 [Pz nb0_1] 174, cBlk nb0_1 [Pz nb1_2, v_revised, I r02, .map (some nb3_4), .map (some nb4_5)] 180, cRo Bs2_3, cMap encG I nb3_4 r03, cMap I B nb4_5 r04]) H rfl)) ?_
   rintro vq w115z ⟨r2, hr116z, hvq, H2_⟩
   subst hr116z
   subst vq
   try dsimp only at hM
   replace H : St w w115z [cOwn (α := Raw 0) 34 v_l10 rw_l10, cRo B_l10, cOwn (α := Int) 3 v_l l, cBlk b_7 [.func (.func 128) #[] #[Pz b_6]] 183, cBlk b_6 [Pz nb0_1] 174, cBlk nb0_1 [Pz nb1_2, v_revised, I r02, .map (some nb3_4), .map (some nb4_5)] 180, cRo Bs2_3, cMap encG I nb3_4 r03, cMap I B nb4_5 r04] R := H.back H2_ rfl
   clear H2_
   refine s_val (x_not (b := r2) rfl) <| sM (B (!r2)) rfl <| g_val (!(!r2)) (gy_f rfl) (fun hg => x_ld (p := Pz b_7) (v := .func (.func 128) #[] #[Pz b_6]) rfl (ldb_sc Sc183 (H.blk (k := 3) rfl) rfl)) <| g_val (!(!r2)) (gy_f rfl) (fun hg => x_mv (v := I (revised.getD s2 0)) rfl) <| g_val (!(!r2)) (gy_f rfl) (fun hg => x_mv (v := I (l.getD s4 0)) rfl) ?_
   obtain ⟨r3, hx117z, hM⟩ := M.e_bind hM
   refine t_gcallv (cap := [Pz b_6]) (!(!r2)) (gy_f rfl) cf128 (fun hg => (gd_of (c := !(!r2)) hg (.func (.func 128) #[] #[Pz b_6]))) (B r3) (fun _ => [I (revised.getD s2 0), I (l.getD s4 0)]) (fun hg => lst2 (gd_of (c := !(!r2)) hg (I (revised.getD s2 0))) (gd_of (c := !(!r2)) hg (I (l.getD s4 0)))) H (fun hg => (notes_Lines_1_ok (revised.getD s2 0) (l.getD s4 0) w_ revised r02 r03 r04 (hC_w_.app _) hs_w_ (Has.ro (k := 6) rfl hf6z) (hC_revised.app _) hs_revised (Has.here (k := 7) rfl) (Has.here (k := 8) rfl) (Has.here (k := 5) rfl) (Has.here (k := 4) rfl) (M.e_opt hx117z hg) _ (H.give (A := []) rfl)).mono fun v_ w_ ⟨y_, hr_, hv_, H_⟩ => by subst hr_; exact ⟨hv_, H.via H_⟩) ?_
   intro w118z H
   refine g_val (!(!r2)) (gy_f rfl) (fun hg => x_not (b := r3) (gd_of (c := !(!r2)) hg (B r3))) <| s_val (x_por (b := !r2) (r := !r3) rfl rfl (fun hb => gd_of (c := !(!r2)) (by simp_all) (B (!r3)))) <| s_nil ?_
   refine W.cond ((!r2) || (!r3)) rfl (fun c119z => ?_) (fun c119z => ?_)
   ·replace hM := M.e_t hM c119z
    refine W.exit ?_
    refine W.region rfl <| s_val (x_ari (a := (s4 : Int)) (b := 1) (r := (s4 : Int) + 1) rfl rfl rfl (by omega)) <| sM (I ((s4 : Int) + 1)) rfl <| s_nil ?_
    exact ⟨m107z, lt108z, s4 + 1, l10, v_l10, rw_l10, B_l10, _, upds_of _ _ ⟨rfl, rfl, rfl, rfl, rfl, rfl, rfl, rfl, rfl, rfl, rfl, rfl, trivial⟩, M.e_inl hM hN110z, H, hr_l10⟩
   replace hM := M.e_f hM c119z
   refine W.skip <| W.seq <| W.region rfl <| sM (I (revised.getD s2 0)) rfl ?_
   refine t_bs (α := Int) T34 [I (revised.getD s2 0)] [(revised.getD s2 0 : Int)] H rfl (.cons rfl (Flat.rep_enc _ (revised.getD s2 0 : Int)) <| .nil) rfl rfl rfl ?_
   intro v120z w121z H
   refine sA v120z rfl <| s_nil <| W.seq <| W.seq <| W.region rfl <| sM (I (l.getD s4 0)) rfl ?_
   refine t_alloc (cs := [I 0]) H Al3 rfl ?_
   intro b_10 w122z H
   refine t_st (k := 0) (b := b_10) (off := 0) (cs := [I 0]) (vs := [I (l.getD s4 0)]) (cs' := [I (l.getD s4 0)]) (v := I (l.getD s4 0)) (L' := [cBlk b_10 [I (l.getD s4 0)] 3, cOwn (α := Int) 3 v120z ([(revised.getD s2 0 : Int)]), cOwn (α := Raw 0) 34 v_l10 rw_l10, cRo B_l10, cOwn (α := Int) 3 v_l l, cBlk b_7 [.func (.func 128) #[] #[Pz b_6]] 183, cBlk b_6 [Pz nb0_1] 174, cBlk nb0_1 [Pz nb1_2, v_revised, I r02, .map (some nb3_4), .map (some nb4_5)] 180, cRo Bs2_3, cMap encG I nb3_4 r03, cMap I B nb4_5 r04]) H rfl rfl rfl Sz3 rfl rfl rfl rfl rfl rfl ?_
   intro w123z H
   refine s_nil <| W.block ?_
   obtain ⟨ex124z, hi125z, hk126z⟩ := M.e_bind hM
   obtain ⟨m0_, hi125z⟩ := M.e_iter hi125z
   refine W.loop (fun m σ W => ∃ (bk_b_10 : Nat) (l4 : List Int) (s3 : Int) (v_l4 : Value) (ρ : Env), σ = upds ρ [(2, I work), (8, Pz b_6), (10, Pz b_7), (11, v_l), (13, v_l10), (15, I (revised.getD s2 0)), (18, v_l4), (19, Pz bk_b_10), (44, v_revised), (45, I (revised.length : Int)), (46, I (s2 : Int)), (50, v_l), (51, I (l.length : Int)), (52, I (s4 : Int)), (61, gd (!(!r2)) (.func (.func 128) #[] #[Pz b_6])), (62, gd (!(!r2)) (I (revised.getD s2 0))), (63, gd (!(!r2)) (I (l.getD s4 0))), (64, gd (!(!r2)) (B r3)), (65, gd (!(!r2)) (B (!r3)))] ∧ M.iterN (m_notes_Lines_b13 w_ revised work r02 r03 r04 l) m (l4, s3) = some ex124z ∧ St w W [cBlk bk_b_10 [I s3] 3, cOwn (α := Int) 3 v_l4 l4, cOwn (α := Raw 0) 34 v_l10 rw_l10, cRo B_l10, cOwn (α := Int) 3 v_l l, cBlk b_7 [.func (.func 128) #[] #[Pz b_6]] 183, cBlk b_6 [Pz nb0_1] 174, cBlk nb0_1 [Pz nb1_2, v_revised, I r02, .map (some nb3_4), .map (some nb4_5)] 180, cRo Bs2_3, cMap encG I nb3_4 r03, cMap I B nb4_5 r04] R) ?_ ?_
   ·exact ⟨_, b_10, [(revised.getD s2 0 : Int)], l.getD s4 0, v120z, _, upds_of _ _ ⟨rfl, rfl, rfl, rfl, rfl, rfl, rfl, rfl, rfl, rfl, rfl, rfl, rfl, rfl, rfl, rfl, rfl, rfl, rfl, trivial⟩, hi125z, H⟩
   rintro m129z σ w127z ⟨bk_b_10, l4, s3, v_l4, ρ, rfl, hI128z, H⟩
   obtain ⟨m130z, lt131z, x132z, hM, hN133z⟩ := M.e_iterN hI128z
   simp only [m_notes_Lines_b13] at hM
   clear hI128z
   refine W.seq <| W.seq <| W.region rfl <| s_val (x_ld (p := Pz bk_b_10) (v := I s3) rfl (ldb_sc Sc3 (H.blk (k := 0) rfl) rfl)) <| sM (I work) rfl <| sC s3 work (s3 != work) rfl rfl rfl <| s_nil ?_
   refine W.cond (s3 != work) rfl (fun c134z => ?_) (fun c134z => ?_)
   ·replace hM := M.e_t hM c134z
    simp only [qz1, qz2, qz3, qz4, qz5, qz6, ne_eq, qz7] at c134z
    refine W.skip <| W.seq <| W.block <| W.seq <| W.region rfl <| sM v_l4 rfl <| s_val (x_ld (p := Pz bk_b_10) (v := I s3) rfl (ldb_sc Sc3 (H.blk (k := 0) rfl) rfl)) ?_
    refine t_bs (α := Int) T34 [I s3] [(s3 : Int)] H rfl (.cons rfl (Flat.rep_enc _ (s3 : Int)) <| .nil) rfl rfl rfl ?_
    intro v135z w136z H
    obtain ⟨sd137z, hM⟩ := M.e_grd hM
    simp only [Bool.and_eq_true, decide_eq_true_eq] at sd137z
    refine t_app (α := Int) (k := 2) (l := l4) (l2 := [(s3 : Int)]) (l' := l4 ++ ([(s3 : Int)])) (vy := v135z) T34 rfl H rfl rfl rfl (ownSl (H.get (k := 0) rfl)) (ownLe _ (H.get (k := 0) rfl)) (rfl) (by first | omega | (simp only [List.length_nil] at *; omega)) ?_
    intro v138z w139z H
    replace H : St w w139z [cOwn (α := Int) 3 v135z ([(s3 : Int)]), cBlk bk_b_10 [I s3] 3, cOwn (α := Int) 3 v138z (l4 ++ ([(s3 : Int)])), cOwn (α := Raw 0) 34 v_l10 rw_l10, cRo B_l10, cOwn (α := Int) 3 v_l l, cBlk b_7 [.func (.func 128) #[] #[Pz b_6]] 183, cBlk b_6 [Pz nb0_1] 174, cBlk nb0_1 [Pz nb1_2, v_revised, I r02, .map (some nb3_4), .map (some nb4_5)] 180, cRo Bs2_3, cMap encG I nb3_4 r03, cMap I B nb4_5 r04] R := H
    refine sA v138z rfl <| s_nil <| W.region rfl <| sM v_l rfl <| s_val (x_mf (fs := []) (cs := [Pz b_7, Pz bk_b_10]) rfl rfl) ?_
    obtain ⟨r141z, hx140z, hM⟩ := M.e_bind hM
    refine s_call cf102 [v_l, .func (.func 129) #[] #[Pz b_7, Pz bk_b_10]] rfl (slices_IndexFunc_int_ok l (fun xqz => m_notes_Lines_2 xqz w_ revised r02 r03 r04 s3) (Reads.of (k := 5) rfl ownLe) (ownSl (H.get (k := 5) rfl)) ⟨129, [Pz b_7, Pz bk_b_10], rfl, cf129, fun wqz Lqz Cqz vqz xqz bqz hsqz hCqz hAqz hpqz => by obtain rfl := Arg.int hAqz; exact (notes_Lines_2_ok xqz w_ revised r02 r03 r04 s3 (Reads.app (hC_w_.app _) _) hs_w_ (Has.app (Has.ro (k := 9) rfl hf6z) _) (Reads.app (hC_revised.app _) _) hs_revised (Has.app (Has.here (k := 10) rfl) _) (Has.app (Has.here (k := 11) rfl) _) (Has.app (Has.here (k := 8) rfl) _) (Has.app (Has.here (k := 7) rfl) _) (Has.app (Has.here (k := 6) rfl) _) (Has.app (Has.here (k := 1) rfl) _) hpqz wqz (St.refl hsqz)).mono fun vqz wqz ⟨yqz, hrqz, hvqz, Hqz⟩ => by subst hrqz; exact ⟨hvqz, Hqz⟩⟩ hx140z _ (St.give (T := [cOwn (α := Int) 3 v135z ([(s3 : Int)]), cBlk bk_b_10 [I s3] 3, cOwn (α := Int) 3 v138z (l4 ++ ([(s3 : Int)])), cOwn (α := Raw 0) 34 v_l10 rw_l10, cRo B_l10, cOwn (α := Int) 3 v_l l, cBlk b_7 [.func (.func 128) #[] #[Pz b_6]] 183, cBlk b_6 [Pz nb0_1] 174, cBlk nb0_1 [Pz nb1_2, v_revised, I r02, .map (some nb3_4), .map (some nb4_5)] 180, cRo Bs2_3, cMap encG I nb3_4 r03, cMap I B nb4_5 r04]) H rfl)) ?_
    rintro vq w142z ⟨r4, hr143z, hvq, H2_⟩
    subst hr143z
    subst vq
    try dsimp only at hM
    replace H : St w w142z [cOwn (α := Int) 3 v135z ([(s3 : Int)]), cBlk bk_b_10 [I s3] 3, cOwn (α := Int) 3 v138z (l4 ++ ([(s3 : Int)])), cOwn (α := Raw 0) 34 v_l10 rw_l10, cRo B_l10, cOwn (α := Int) 3 v_l l, cBlk b_7 [.func (.func 128) #[] #[Pz b_6]] 183, cBlk b_6 [Pz nb0_1] 174, cBlk nb0_1 [Pz nb1_2, v_revised, I r02, .map (some nb3_4), .map (some nb4_5)] 180, cRo Bs2_3, cMap encG I nb3_4 r03, cMap I B nb4_5 r04] R := H.back H2_ rfl
    clear H2_
    refine t_st (k := 1) (b := bk_b_10) (off := 0) (cs := [I s3]) (vs := [I r4]) (cs' := [I r4]) (v := I r4) (L' := [cOwn (α := Int) 3 v135z ([(s3 : Int)]), cBlk bk_b_10 [I r4] 3, cOwn (α := Int) 3 v138z (l4 ++ ([(s3 : Int)])), cOwn (α := Raw 0) 34 v_l10 rw_l10, cRo B_l10, cOwn (α := Int) 3 v_l l, cBlk b_7 [.func (.func 128) #[] #[Pz b_6]] 183, cBlk b_6 [Pz nb0_1] 174, cBlk nb0_1 [Pz nb1_2, v_revised, I r02, .map (some nb3_4), .map (some nb4_5)] 180, cRo Bs2_3, cMap encG I nb3_4 r03, cMap I B nb4_5 r04]) H rfl rfl rfl Sz3 rfl rfl rfl rfl rfl rfl ?_
    intro w144z H
    refine s_nil <| W.seq <| W.region rfl <| s_val (x_ld (p := Pz bk_b_10) (v := I r4) rfl (ldb_sc Sc3 (H.blk (k := 1) rfl) rfl)) <| s_nil <| W.region rfl ?_
    refine t_alloc (cs := [I 0]) H Al3 rfl ?_
    intro b_12 w145z H
    refine t_st (k := 0) (b := b_12) (off := 0) (cs := [I 0]) (vs := [I r4]) (cs' := [I r4]) (v := I r4) (L' := [cBlk b_12 [I r4] 3, cOwn (α := Int) 3 v135z ([(s3 : Int)]), cBlk bk_b_10 [I r4] 3, cOwn (α := Int) 3 v138z (l4 ++ ([(s3 : Int)])), cOwn (α := Raw 0) 34 v_l10 rw_l10, cRo B_l10, cOwn (α := Int) 3 v_l l, cBlk b_7 [.func (.func 128) #[] #[Pz b_6]] 183, cBlk b_6 [Pz nb0_1] 174, cBlk nb0_1 [Pz nb1_2, v_revised, I r02, .map (some nb3_4), .map (some nb4_5)] 180, cRo Bs2_3, cMap encG I nb3_4 r03, cMap I B nb4_5 r04]) H rfl rfl rfl Sz3 rfl rfl rfl rfl rfl rfl ?_
    intro w146z H
    refine s_nil ?_
    exact ⟨m130z, lt131z, b_12, l4 ++ ([(s3 : Int)]), r4, v138z, _, upds_of _ _ ⟨rfl, rfl, rfl, rfl, rfl, rfl, rfl, rfl, rfl, rfl, rfl, rfl, rfl, rfl, rfl, rfl, rfl, rfl, rfl, trivial⟩, M.e_inl hM hN133z, (H.pick [0, 3, 4, 5, 6, 7, 8, 9, 10, 11, 12] (by decide) rfl)⟩
   replace hM := M.e_f hM c134z
   simp only [qz1, qz2, qz3, qz4, qz5, qz6, ne_eq, qz7] at c134z
   refine W.exit ?_
   have hX147z := M.e_inr hM hN133z
   subst hX147z
   replace hM := hk126z
   try dsimp only at hM
   refine W.region rfl <| sM v_l10 rfl <| sM v_l4 rfl <| sM (I work) rfl ?_
   refine t_bs (α := Int) T34 [I work] [(work : Int)] H rfl (.cons rfl (Flat.rep_enc _ (work : Int)) <| .nil) rfl rfl rfl ?_
   intro v148z w149z H
   obtain ⟨sd150z, hM⟩ := M.e_grd hM
   simp only [Bool.and_eq_true, decide_eq_true_eq] at sd150z
   refine t_app (α := Int) (k := 2) (l := l4) (l2 := [(work : Int)]) (l' := l4 ++ ([(work : Int)])) (vy := v148z) T34 rfl H rfl rfl rfl (ownSl (H.get (k := 0) rfl)) (ownLe _ (H.get (k := 0) rfl)) (rfl) (by first | omega | (simp only [List.length_nil] at *; omega)) ?_
   intro v151z w152z H
   replace H : St w w152z [cOwn (α := Int) 3 v148z ([(work : Int)]), cBlk bk_b_10 [I s3] 3, cOwn (α := Int) 3 v151z (l4 ++ ([(work : Int)])), cOwn (α := Raw 0) 34 v_l10 rw_l10, cRo B_l10, cOwn (α := Int) 3 v_l l, cBlk b_7 [.func (.func 128) #[] #[Pz b_6]] 183, cBlk b_6 [Pz nb0_1] 174, cBlk nb0_1 [Pz nb1_2, v_revised, I r02, .map (some nb3_4), .map (some nb4_5)] 180, cRo Bs2_3, cMap encG I nb3_4 r03, cMap I B nb4_5 r04] R := H
   obtain ⟨Bs_14, H⟩ := H.emptyE
   obtain ⟨Bs_15, H, hs154z⟩ := H.freezeE (k := 3) rfl
   replace H : St w w152z [cRo Bs_14, cOwn (α := Int) 3 v148z ([(work : Int)]), cBlk bk_b_10 [I s3] 3, cRo Bs_15, cOwn (α := Raw 0) 34 v_l10 rw_l10, cRo B_l10, cOwn (α := Int) 3 v_l l, cBlk b_7 [.func (.func 128) #[] #[Pz b_6]] 183, cBlk b_6 [Pz nb0_1] 174, cBlk nb0_1 [Pz nb1_2, v_revised, I r02, .map (some nb3_4), .map (some nb4_5)] 180, cRo Bs2_3, cMap encG I nb3_4 r03, cMap I B nb4_5 r04] R := H
   have hq153z := hs154z
   obtain ⟨Bs_16, H, le155z, le156z⟩ := H.joinE (i := 0) (j := 3) rfl rfl
   replace hq153z := hq153z.mono le156z
   obtain ⟨rw157z, hrw_rw157z⟩ : ∃ r : Raw 0, r.cs = [v151z] := ⟨Raw.of [v151z] rfl (by simp only [List.all_cons, List.all_nil, Bool.true_and, Bool.and_true, Sl.oc hq153z]; try rfl), rfl⟩
   have hr158z : RepR (α := List Int) Bs_16.cells [rw157z] [l4 ++ ([(work : Int)])] := .cons (by rw [hrw_rw157z]; exact ⟨_, rfl, hq153z⟩) <| .nil
   refine t_bs (α := Raw 0) T73 [v151z] [rw157z] H rfl (.cons (by rw [show (Flat.enc rw157z : List Value) = rw157z.cs from rfl, hrw_rw157z]; exact Sl.cells hq153z) (Flat.rep_enc _ _) <| .nil) rfl rfl rfl ?_
   intro v159z w160z H
   replace H : St w w160z [cOwn (α := Raw 0) 34 v159z ([rw157z]), cRo Bs_16, cRo Bs_14, cOwn (α := Int) 3 v148z ([(work : Int)]), cBlk bk_b_10 [I s3] 3, cRo Bs_15, cOwn (α := Raw 0) 34 v_l10 rw_l10, cRo B_l10, cOwn (α := Int) 3 v_l l, cBlk b_7 [.func (.func 128) #[] #[Pz b_6]] 183, cBlk b_6 [Pz nb0_1] 174, cBlk nb0_1 [Pz nb1_2, v_revised, I r02, .map (some nb3_4), .map (some nb4_5)] 180, cRo Bs2_3, cMap encG I nb3_4 r03, cMap I B nb4_5 r04] R := H
   obtain ⟨sd161z, hM⟩ := M.e_grd hM
   simp only [Bool.and_eq_true, decide_eq_true_eq] at sd161z
   have hr162z := hr158z
   obtain ⟨Bs_20, H, le163z, le164z⟩ := H.joinE (i := 7) (j := 1) rfl rfl
   replace hr_l10 := hr_l10.mono le163z
   replace hr162z := hr162z.mono le164z
   have hr167z := hr_l10.app hr162z
   refine t_app (α := Raw 0) (k := 7) (l := rw_l10) (l2 := [rw157z]) (l' := rw_l10 ++ ([rw157z])) (vy := v159z) T73 rfl H rfl rfl rfl (ownSl (H.get (k := 1) rfl)) (ownLe _ (H.get (k := 1) rfl)) (rfl) (by have a_ := hr_l10.len; have b_ := hr162z.len; simp only [List.length_nil] at *; first | omega | (rw [a_, b_]; omega)) ?_
   intro v165z w166z H
   replace H : St w w166z [cRo Bs_20, cOwn (α := Raw 0) 34 v159z ([rw157z]), cRo Bs_16, cRo Bs_14, cOwn (α := Int) 3 v148z ([(work : Int)]), cBlk bk_b_10 [I s3] 3, cRo Bs_15, cOwn (α := Raw 0) 34 v165z (rw_l10 ++ ([rw157z])), cRo B_l10, cOwn (α := Int) 3 v_l l, cBlk b_7 [.func (.func 128) #[] #[Pz b_6]] 183, cBlk b_6 [Pz nb0_1] 174, cBlk nb0_1 [Pz nb1_2, v_revised, I r02, .map (some nb3_4), .map (some nb4_5)] 180, cRo Bs2_3, cMap encG I nb3_4 r03, cMap I B nb4_5 r04] R := H
   refine sA v165z rfl <| s_nil <| W.region rfl <| s_val (x_ari (a := (s4 : Int)) (b := 1) (r := (s4 : Int) + 1) rfl rfl rfl (by omega)) <| sM (I ((s4 : Int) + 1)) rfl <| s_nil ?_
   exact ⟨m107z, lt108z, s4 + 1, l10 ++ ([l4 ++ ([(work : Int)])]), v165z, rw_l10 ++ ([rw157z]), Bs_20, _, upds_of _ _ ⟨rfl, rfl, rfl, rfl, rfl, rfl, rfl, rfl, rfl, rfl, rfl, rfl, trivial⟩, M.e_inl hM hN110z, (H.pick [7, 0, 9, 10, 11, 12, 13, 14, 15] (by decide) rfl), hr167z⟩
  replace hM := M.e_f hM c111z
  simp only [qz1, qz2, qz3, qz4, qz5, qz6, ne_eq, qz7] at c111z
  refine W.exit ?_
  have hX168z := M.e_inr hM hN110z
  subst hX168z
  replace hM := hk103z
  try dsimp only at hM
  refine W.region rfl <| s_val (x_ari (a := (s2 : Int)) (b := 1) (r := (s2 : Int) + 1) rfl rfl rfl (by omega)) <| sM (I ((s2 : Int) + 1)) rfl <| s_nil ?_
  exact ⟨m94z, lt95z, s2 + 1, l10, v_l10, rw_l10, B_l10, _, upds_of _ _ ⟨rfl, rfl, rfl, rfl, rfl, rfl, rfl, rfl, trivial⟩, M.e_inl hM hN97z, H, hr_l10⟩
 replace hM := M.e_f hM c98z
 simp only [qz1, qz2, qz3, qz4, qz5, qz6, ne_eq, qz7] at c98z
 refine W.exit ?_
 have hX169z := M.e_inr hM hN97z
 subst hX169z
 replace hM := hk90z
 try dsimp only at hM
 refine W.seq <| W.region rfl <| sM v_l12 rfl <| sA v_l12 rfl <| sA (I 0) rfl <| s_nil ?_
 refine W.ret ?_
 have hr_ := M.e_pure hM
 exact ⟨_, resE_tmp2 rfl, ⟨l12, 0, v_l12, rw_l12, B_l12, hr_, rfl, (H.pick [0, 1] (by decide) rfl), hr_l12⟩⟩

end Go.Proofs.Ytndobgodeicloaa
end
section
set_option maxRecDepth 100000
set_option maxHeartbeats 16000000
namespace Go.Proofs.Ytndobgodeicloaa
open Go Go.Nm
def m_nilometerlaw13_awake : M Bool :=
  M.bind (m_nilometerlaw13_Six) fun r2 =>
  M.bind (M.pure (valuesR r2 ([(⟨(0 : Int), (2 : Int), (7 : Int)⟩ : Note), (⟨(1 : Int), (0 : Int), (9 : Int)⟩ : Note)]), valuesE r2 ([(⟨(0 : Int), (2 : Int), (7 : Int)⟩ : Note), (⟨(1 : Int), (0 : Int), (9 : Int)⟩ : Note)]))) fun (l, e) =>
  M.bind (m_nilometerlaw13_Six) fun r3 =>
  M.bind (M.pure (staleR r3 ([(0 : Int)]), askedE r3 ([(0 : Int)]))) fun (l2, e2) =>
  M.bind (m_nilometerlaw13_Six) fun r4 =>
  M.bind (M.pure (readyR r4 ([(1 : Int)]), askedE r4 ([(1 : Int)]))) fun (l3, e3) =>
  M.bind (m_nilometerlaw13_Six) fun r5 =>
  M.bind (M.pure (longestR r5 ([(0 : Int)]), longestE r5 ([(0 : Int)]))) fun (l4, e4) =>
  M.bind (M.pure (decide (l = ([(7 : Int), (9 : Int), (26 : Int), (10 : Int), (47 : Int), (48 : Int)])))) fun s =>
  M.bind (M.pure (decide (l2 = ([(0 : Int), (2 : Int), (4 : Int), (5 : Int)])))) fun s2 =>
  M.bind (M.pure (decide (l3 = ([(-1 : Int), (6 : Int), (16 : Int), (36 : Int), (56 : Int), (57 : Int)])))) fun s3 =>
  M.bind (M.pure (decide (l4 = ([(0 : Int), (2 : Int), (4 : Int), (5 : Int)])))) fun s4 =>
  bif ((((((((e != 0) || (e2 != 0)) || (e3 != 0)) || (e4 != 0)) || (!s)) || (!s2)) || (!s3)) || (!s4)) then (
  M.pure false)
  else (
  M.bind (m_nilometerlaw13_Six) fun r6 =>
  M.bind (m_notes_Fences r6 ([(0 : Int)]) ([(0 : Int), (2 : Int), (4 : Int), (5 : Int)])) fun (r0, r1) =>
  M.bind (m_nilometerlaw13_Six) fun r7 =>
  M.bind (m_notes_Fences r7 ([(0 : Int)]) ([(0 : Int), (2 : Int), (4 : Int)])) fun (r02, r12) =>
  M.bind (m_nilometerlaw13_Six) fun r8 =>
  M.bind (m_notes_Freeze r8 ([(1 : Int)]) 4) fun (r03, r13) =>
  M.bind (m_nilometerlaw13_Six) fun r9 =>
  M.bind (m_notes_Lines r9 ([(1 : Int)]) 4) fun (r04, r14) =>
  M.bind (m_nilometerlaw13_Six) fun r10 =>
  M.bind (m_notes_Freeze r10 ([(1 : Int)]) 3) fun (r05, r15) =>
  M.bind (M.pure (decide (r03 = ([(2 : Int), (3 : Int)])))) fun s5 =>
  bif (((((((((r1 != 0) || (r12 != 0)) || (r13 != 0)) || (r14 != 0)) || (r15 != 5)) || (!r0)) || r02) || (!s5)) || ((r04.length : Int) != 2)) then (
  M.pure false)
  else (
  M.bind (m_nilometerlaw13_Six) fun r11 =>
  M.bind (M.pure (withdrawnR r11 ([(⟨(0 : Int), (3 : Int), (8 : Int)⟩ : Note), (⟨(0 : Int), (2 : Int), (7 : Int)⟩ : Note), (⟨(1 : Int), (0 : Int), (9 : Int)⟩ : Note)]) ([(⟨(2 : Int), (26 : Int)⟩ : Pub), (⟨(3 : Int), (10 : Int)⟩ : Pub)]), withdrawnE r11 ([(⟨(0 : Int), (3 : Int), (8 : Int)⟩ : Note), (⟨(0 : Int), (2 : Int), (7 : Int)⟩ : Note), (⟨(1 : Int), (0 : Int), (9 : Int)⟩ : Note)]) ([(⟨(2 : Int), (26 : Int)⟩ : Pub), (⟨(3 : Int), (10 : Int)⟩ : Pub)]))) fun (l5, e5) =>
  M.bind (M.pure (decide (l5 = ([(0 : Int)])))) fun s6 =>
  M.pure ((e5 == 0) && s6)))
theorem nilometerlaw13_awake_ok {R : List Chunk}    {r : Bool} (hM : (m_nilometerlaw13_awake).Ends r) (w : World) (H : St w w [] R) : Ret Try.prog 17 #[] w fun v w' => ∃ (y0 : Bool), y0 = r ∧ v = B y0 ∧ St w w' [] R := by
 refine ret_of_W Try.func17 rfl rfl rfl ?_
 refine W.seq <| W.region rfl <| sA (B false) rfl <| s_nil <| W.seq <| W.region rfl ?_
 obtain ⟨r2z, hx1z, hM⟩ := M.e_bind hM
 refine s_call cf79 [] rfl (nilometerlaw13_Six_ok hx1z _ (St.give (T := []) H rfl)) ?_
 rintro vq w3z ⟨r2, u0_1, rr1_2, Bs2_3, hr4z, hvq, H2_, hf5z⟩
 subst hr4z
 subst vq
 try dsimp only at hM
 replace H : St w w3z [cOwn (α := Raw 2) 60 u0_1 rr1_2, cRo Bs2_3] R := H.back H2_ rfl
 clear H2_
 refine s_val (x_bld (ps := [(0, I 0), (1, I 2), (2, I 7)]) (zs := [I 0, I 0, I 0]) (L' := [I 0, I 2, I 7]) rfl Try.underlying30 Al30 rfl (Bd30 Try.underlying30) (.cons (cs := [I 0]) rfl rfl rfl rfl rfl <| .cons (cs := [I 2]) rfl rfl rfl rfl rfl <| .cons (cs := [I 7]) rfl rfl rfl rfl rfl <| .nil)) <| s_val (x_bld (ps := [(0, I 1), (2, I 9)]) (zs := [I 0, I 0, I 0]) (L' := [I 1, I 0, I 9]) rfl Try.underlying30 Al30 rfl (Bd30 Try.underlying30) (.cons (cs := [I 1]) rfl rfl rfl rfl rfl <| .cons (cs := [I 9]) rfl rfl rfl rfl rfl <| .nil)) ?_
 refine t_bs (α := Note) T23 [.agg #[I 0, I 2, I 7], .agg #[I 1, I 0, I 9]] [(⟨(0 : Int), (2 : Int), (7 : Int)⟩ : Note), (⟨(1 : Int), (0 : Int), (9 : Int)⟩ : Note)] H rfl (.cons rfl (Flat.rep_enc _ (⟨(0 : Int), (2 : Int), (7 : Int)⟩ : Note)) <| .cons rfl (Flat.rep_enc _ (⟨(1 : Int), (0 : Int), (9 : Int)⟩ : Note)) <| .nil) rfl rfl rfl ?_
 intro v6z w7z H
 obtain ⟨⟨l, e⟩, hx11z, hM⟩ := M.e_bind hM
 obtain ⟨hq12z, hq13z⟩ := Prod.mk.inj (M.e_pure hx11z)
 try dsimp only at hM
 refine s_call cf21 [u0_1, v6z] rfl (by have hc_ := (Values_any _ ((rowSl rfl (H.get (k := 1) rfl) (roLe _ (H.get (k := 2) rfl)) hf5z).mono (Cells.sup_le (ownLe _ (H.get (k := 1) rfl)) (roLe _ (H.get (k := 2) rfl)))) ((ownSl (H.get (k := 0) rfl)).mono (ownLe _ (H.get (k := 0) rfl)))); rw [hq12z, hq13z] at hc_; exact hc_) ?_
 rintro _ w8z ⟨u9z, rfl, hs10z, hx_⟩
 obtain ⟨Bs_5, H, hs10z⟩ := H.fresh hx_ hs10z
 clear hx_
 have hl_hs10z := hs10z.len_le
 refine sM (.tuple #[u9z, I e]) rfl <| s_val (x_ext (vs := [u9z, I e]) (v := u9z) rfl rfl) <| s_val (x_ext (vs := [u9z, I e]) (v := I e) rfl rfl) <| sA u9z rfl <| sA (I e) rfl <| s_nil <| W.seq <| W.region rfl ?_
 obtain ⟨r15z, hx14z, hM⟩ := M.e_bind hM
 refine s_call cf79 [] rfl (nilometerlaw13_Six_ok hx14z _ (St.give (T := [cRo Bs_5, cOwn (α := Note) 30 v6z ([(⟨(0 : Int), (2 : Int), (7 : Int)⟩ : Note), (⟨(1 : Int), (0 : Int), (9 : Int)⟩ : Note)]), cOwn (α := Raw 2) 60 u0_1 rr1_2, cRo Bs2_3]) H rfl)) ?_
 rintro vq w16z ⟨r3, u0_6, rr1_7, Bs2_8, hr17z, hvq, H2_, hf18z⟩
 subst hr17z
 subst vq
 try dsimp only at hM
 replace H : St w w16z [cOwn (α := Raw 2) 60 u0_6 rr1_7, cRo Bs2_8, cRo Bs_5, cOwn (α := Note) 30 v6z ([(⟨(0 : Int), (2 : Int), (7 : Int)⟩ : Note), (⟨(1 : Int), (0 : Int), (9 : Int)⟩ : Note)]), cOwn (α := Raw 2) 60 u0_1 rr1_2, cRo Bs2_3] R := H.back H2_ rfl
 clear H2_
 refine t_bs (α := Int) T34 [I 0] [(0 : Int)] H rfl (.cons rfl (Flat.rep_enc _ (0 : Int)) <| .nil) rfl rfl rfl ?_
 intro v19z w20z H
 obtain ⟨⟨l2, e2⟩, hx24z, hM⟩ := M.e_bind hM
 obtain ⟨hq25z, hq26z⟩ := Prod.mk.inj (M.e_pure hx24z)
 try dsimp only at hM
 refine s_call cf32 [u0_6, v19z] rfl (by have hc_ := (Stale_any _ ((rowSl rfl (H.get (k := 1) rfl) (roLe _ (H.get (k := 2) rfl)) hf18z).mono (Cells.sup_le (ownLe _ (H.get (k := 1) rfl)) (roLe _ (H.get (k := 2) rfl)))) ((ownSl (H.get (k := 0) rfl)).mono (ownLe _ (H.get (k := 0) rfl)))); rw [hq25z, hq26z] at hc_; exact hc_) ?_
 rintro _ w21z ⟨u22z, rfl, hs23z, hx_⟩
 obtain ⟨Bs_10, H, hs23z⟩ := H.fresh hx_ hs23z
 clear hx_
 have hl_hs23z := hs23z.len_le
 refine sM (.tuple #[u22z, I e2]) rfl <| s_val (x_ext (vs := [u22z, I e2]) (v := u22z) rfl rfl) <| s_val (x_ext (vs := [u22z, I e2]) (v := I e2) rfl rfl) <| sA u22z rfl <| sA (I e2) rfl <| s_nil <| W.seq <| W.region rfl ?_
 obtain ⟨r28z, hx27z, hM⟩ := M.e_bind hM
 refine s_call cf79 [] rfl (nilometerlaw13_Six_ok hx27z _ (St.give (T := [cRo Bs_10, cOwn (α := Int) 3 v19z ([(0 : Int)]), cOwn (α := Raw 2) 60 u0_6 rr1_7, cRo Bs2_8, cRo Bs_5, cOwn (α := Note) 30 v6z ([(⟨(0 : Int), (2 : Int), (7 : Int)⟩ : Note), (⟨(1 : Int), (0 : Int), (9 : Int)⟩ : Note)]), cOwn (α := Raw 2) 60 u0_1 rr1_2, cRo Bs2_3]) H rfl)) ?_
 rintro vq w29z ⟨r4, u0_11, rr1_12, Bs2_13, hr30z, hvq, H2_, hf31z⟩
 subst hr30z
 subst vq
 try dsimp only at hM
 replace H : St w w29z [cOwn (α := Raw 2) 60 u0_11 rr1_12, cRo Bs2_13, cRo Bs_10, cOwn (α := Int) 3 v19z ([(0 : Int)]), cOwn (α := Raw 2) 60 u0_6 rr1_7, cRo Bs2_8, cRo Bs_5, cOwn (α := Note) 30 v6z ([(⟨(0 : Int), (2 : Int), (7 : Int)⟩ : Note), (⟨(1 : Int), (0 : Int), (9 : Int)⟩ : Note)]), cOwn (α := Raw 2) 60 u0_1 rr1_2, cRo Bs2_3] R := H.back H2_ rfl
 clear H2_
 refine t_bs (α := Int) T34 [I 1] [(1 : Int)] H rfl (.cons rfl (Flat.rep_enc _ (1 : Int)) <| .nil) rfl rfl rfl ?_
 intro v32z w33z H
 obtain ⟨⟨l3, e3⟩, hx37z, hM⟩ := M.e_bind hM
 obtain ⟨hq38z, hq39z⟩ := Prod.mk.inj (M.e_pure hx37z)
 try dsimp only at hM
 refine s_call cf36 [u0_11, v32z] rfl (by have hc_ := (Ready_any _ ((rowSl rfl (H.get (k := 1) rfl) (roLe _ (H.get (k := 2) rfl)) hf31z).mono (Cells.sup_le (ownLe _ (H.get (k := 1) rfl)) (roLe _ (H.get (k := 2) rfl)))) ((ownSl (H.get (k := 0) rfl)).mono (ownLe _ (H.get (k := 0) rfl)))); rw [hq38z, hq39z] at hc_; exact hc_) ?_
 rintro _ w34z ⟨u35z, rfl, hs36z, hx_⟩
 obtain ⟨Bs_15, H, hs36z⟩ := H.fresh hx_ hs36z
 clear hx_
 have hl_hs36z := hs36z.len_le
 refine sM (.tuple #[u35z, I e3]) rfl <| s_val (x_ext (vs := [u35z, I e3]) (v := u35z) rfl rfl) <| s_val (x_ext (vs := [u35z, I e3]) (v := I e3) rfl rfl) <| sA u35z rfl <| sA (I e3) rfl <| s_nil <| W.seq <| W.region rfl ?_
 obtain ⟨r41z, hx40z, hM⟩ := M.e_bind hM
 refine s_call cf79 [] rfl (nilometerlaw13_Six_ok hx40z _ (St.give (T := [cRo Bs_15, cOwn (α := Int) 3 v32z ([(1 : Int)]), cOwn (α := Raw 2) 60 u0_11 rr1_12, cRo Bs2_13, cRo Bs_10, cOwn (α := Int) 3 v19z ([(0 : Int)]), cOwn (α := Raw 2) 60 u0_6 rr1_7, cRo Bs2_8, cRo Bs_5, cOwn (α := Note) 30 v6z ([(⟨(0 : Int), (2 : Int), (7 : Int)⟩ : Note), (⟨(1 : Int), (0 : Int), (9 : Int)⟩ : Note)]), cOwn (α := Raw 2) 60 u0_1 rr1_2, cRo Bs2_3]) H rfl)) ?_
 rintro vq w42z ⟨r5, u0_16, rr1_17, Bs2_18, hr43z, hvq, H2_, hf44z⟩
 subst hr43z
 subst vq
 try dsimp only at hM
 replace H : St w w42z [cOwn (α := Raw 2) 60 u0_16 rr1_17, cRo Bs2_18, cRo Bs_15, cOwn (α := Int) 3 v32z ([(1 : Int)]), cOwn (α := Raw 2) 60 u0_11 rr1_12, cRo Bs2_13, cRo Bs_10, cOwn (α := Int) 3 v19z ([(0 : Int)]), cOwn (α := Raw 2) 60 u0_6 rr1_7, cRo Bs2_8, cRo Bs_5, cOwn (α := Note) 30 v6z ([(⟨(0 : Int), (2 : Int), (7 : Int)⟩ : Note), (⟨(1 : Int), (0 : Int), (9 : Int)⟩ : Note)]), cOwn (α := Raw 2) 60 u0_1 rr1_2, cRo Bs2_3] R := H.back H2_ rfl
 clear H2_
 refine t_bs (α := Int) T34 [I 0] [(0 : Int)] H rfl (.cons rfl (Flat.rep_enc _ (0 : Int)) <| .nil) rfl rfl rfl ?_
 intro v45z w46z H
 obtain ⟨⟨l4, e4⟩, hx50z, hM⟩ := M.e_bind hM
 obtain ⟨hq51z, hq52z⟩ := Prod.mk.inj (M.e_pure hx50z)
 try dsimp only at hM
 refine s_call cf38 [u0_16, v45z] rfl (by have hc_ := (Longest_any _ ((rowSl rfl (H.get (k := 1) rfl) (roLe _ (H.get (k := 2) rfl)) hf44z).mono (Cells.sup_le (ownLe _ (H.get (k := 1) rfl)) (roLe _ (H.get (k := 2) rfl)))) ((ownSl (H.get (k := 0) rfl)).mono (ownLe _ (H.get (k := 0) rfl)))); rw [hq51z, hq52z] at hc_; exact hc_) ?_
 rintro _ w47z ⟨u48z, rfl, hs49z, hx_⟩
 obtain ⟨Bs_20, H, hs49z⟩ := H.fresh hx_ hs49z
 clear hx_
 have hl_hs49z := hs49z.len_le
 refine sM (.tuple #[u48z, I e4]) rfl <| s_val (x_ext (vs := [u48z, I e4]) (v := u48z) rfl rfl) <| s_val (x_ext (vs := [u48z, I e4]) (v := I e4) rfl rfl) <| sA u48z rfl <| sA (I e4) rfl <| s_nil <| W.seq <| W.seq <| W.region rfl <| sM (I e) rfl <| sC e 0 (e != 0) rfl rfl rfl <| sM (B (e != 0)) rfl ?_
 refine g_val (!(e != 0)) (gy_f rfl) (fun hg => x_mv (v := I e2) rfl) <| g_val (!(e != 0)) (gy_f rfl) (fun hg => x_cmp (kd := .i64) (a := e2) (b := 0) (r := e2 != 0) (gd_of (c := !(e != 0)) hg (I e2)) rfl rfl) <| s_val (x_por (b := e != 0) (r := e2 != 0) rfl rfl (fun hb => gd_of (c := !(e != 0)) (by simp_all) (B (e2 != 0)))) <| sM (B ((e != 0) || (e2 != 0))) rfl <| g_val (!((e != 0) || (e2 != 0))) (gy_f rfl) (fun hg => x_mv (v := I e3) rfl) <| g_val (!((e != 0) || (e2 != 0))) (gy_f rfl) (fun hg => x_cmp (kd := .i64) (a := e3) (b := 0) (r := e3 != 0) (gd_of (c := !((e != 0) || (e2 != 0))) hg (I e3)) rfl rfl) <| s_val (x_por (b := ((e != 0) || (e2 != 0))) (r := e3 != 0) rfl rfl (fun hb => gd_of (c := !((e != 0) || (e2 != 0))) (by simp_all) (B (e3 != 0)))) <| sM (B (((e != 0) || (e2 != 0)) || (e3 != 0))) rfl <| g_val (!(((e != 0) || (e2 != 0)) || (e3 != 0))) (gy_f rfl) (fun hg => x_mv (v := I e4) rfl) <| g_val (!(((e != 0) || (e2 != 0)) || (e3 != 0))) (gy_f rfl) (fun hg => x_cmp (kd := .i64) (a := e4) (b := 0) (r := e4 != 0) (gd_of (c := !(((e != 0) || (e2 != 0)) || (e3 != 0))) hg (I e4)) rfl rfl) <| s_val (x_por (b := (((e != 0) || (e2 != 0)) || (e3 != 0))) (r := e4 != 0) rfl rfl (fun hb => gd_of (c := !(((e != 0) || (e2 != 0)) || (e3 != 0))) (by simp_all) (B (e4 != 0)))) <| sM (B ((((e != 0) || (e2 != 0)) || (e3 != 0)) || (e4 != 0))) rfl ?_
 refine g_val (!((((e != 0) || (e2 != 0)) || (e3 != 0)) || (e4 != 0))) (gy_f rfl) (fun hg => x_mv (v := u9z) rfl) ?_
 refine t_gbs (α := Int) T34 (!((((e != 0) || (e2 != 0)) || (e3 != 0)) || (e4 != 0))) (gy_f rfl) [I 7, I 9, I 26, I 10, I 47, I 48] [(7 : Int), (9 : Int), (26 : Int), (10 : Int), (47 : Int), (48 : Int)] H (fun _ => rfl) (.cons rfl (Flat.rep_enc _ _) <| .cons rfl (Flat.rep_enc _ _) <| .cons rfl (Flat.rep_enc _ _) <| .cons rfl (Flat.rep_enc _ _) <| .cons rfl (Flat.rep_enc _ _) <| .cons rfl (Flat.rep_enc _ _) <| .nil) rfl rfl rfl ?_
 intro v53z Bs_21 w54z H hf55z
 obtain ⟨s, hx56z, hM⟩ := M.e_bind hM
 replace hx56z := M.e_pure hx56z
 refine t_gcall (!((((e != 0) || (e2 != 0)) || (e3 != 0)) || (e4 != 0))) (gy_f rfl) cf25 (B s) (fun _ => [u9z, v53z]) (fun hg => lst2 (gd_of (c := !((((e != 0) || (e2 != 0)) || (e3 != 0)) || (e4 != 0))) hg (u9z)) (gd_of (c := !((((e != 0) || (e2 != 0)) || (e3 != 0)) || (e4 != 0))) hg (v53z))) H (fun hg => Ret.mono (same_int _ (hs10z.mono (roLe _ (H.get (k := 13) rfl))) ((hf55z hg).mono (roLe _ (H.get (k := 0) rfl)))) fun v_ w_ ⟨hv_, hx_⟩ => ⟨hv_.trans (congrArg B hx56z), H.ext hx_⟩) ?_
 intro w57z H
 refine g_val (!((((e != 0) || (e2 != 0)) || (e3 != 0)) || (e4 != 0))) (gy_f rfl) (fun hg => x_not (b := s) (gd_of (c := !((((e != 0) || (e2 != 0)) || (e3 != 0)) || (e4 != 0))) hg (B s))) <| s_val (x_por (b := ((((e != 0) || (e2 != 0)) || (e3 != 0)) || (e4 != 0))) (r := !s) rfl rfl (fun hb => gd_of (c := !((((e != 0) || (e2 != 0)) || (e3 != 0)) || (e4 != 0))) (by simp_all) (B (!s)))) <| sM (B (((((e != 0) || (e2 != 0)) || (e3 != 0)) || (e4 != 0)) || (!s))) rfl <| g_val (!(((((e != 0) || (e2 != 0)) || (e3 != 0)) || (e4 != 0)) || (!s))) (gy_f rfl) (fun hg => x_mv (v := u22z) rfl) ?_
 refine t_gbs (α := Int) T34 (!(((((e != 0) || (e2 != 0)) || (e3 != 0)) || (e4 != 0)) || (!s))) (gy_f rfl) [I 0, I 2, I 4, I 5] [(0 : Int), (2 : Int), (4 : Int), (5 : Int)] H (fun _ => rfl) (.cons rfl (Flat.rep_enc _ _) <| .cons rfl (Flat.rep_enc _ _) <| .cons rfl (Flat.rep_enc _ _) <| .cons rfl (Flat.rep_enc _ _) <| .nil) rfl rfl rfl ?_
 intro v58z Bs_22 w59z H hf60z
 obtain ⟨s2, hx61z, hM⟩ := M.e_bind hM
 replace hx61z := M.e_pure hx61z
 refine t_gcall (!(((((e != 0) || (e2 != 0)) || (e3 != 0)) || (e4 != 0)) || (!s))) (gy_f rfl) cf25 (B s2) (fun _ => [u22z, v58z]) (fun hg => lst2 (gd_of (c := !(((((e != 0) || (e2 != 0)) || (e3 != 0)) || (e4 != 0)) || (!s))) hg (u22z)) (gd_of (c := !(((((e != 0) || (e2 != 0)) || (e3 != 0)) || (e4 != 0)) || (!s))) hg (v58z))) H (fun hg => Ret.mono (same_int _ (hs23z.mono (roLe _ (H.get (k := 10) rfl))) ((hf60z hg).mono (roLe _ (H.get (k := 0) rfl)))) fun v_ w_ ⟨hv_, hx_⟩ => ⟨hv_.trans (congrArg B hx61z), H.ext hx_⟩) ?_
 intro w62z H
 refine g_val (!(((((e != 0) || (e2 != 0)) || (e3 != 0)) || (e4 != 0)) || (!s))) (gy_f rfl) (fun hg => x_not (b := s2) (gd_of (c := !(((((e != 0) || (e2 != 0)) || (e3 != 0)) || (e4 != 0)) || (!s))) hg (B s2))) <| s_val (x_por (b := (((((e != 0) || (e2 != 0)) || (e3 != 0)) || (e4 != 0)) || (!s))) (r := !s2) rfl rfl (fun hb => gd_of (c := !(((((e != 0) || (e2 != 0)) || (e3 != 0)) || (e4 != 0)) || (!s))) (by simp_all) (B (!s2)))) <| sM (B ((((((e != 0) || (e2 != 0)) || (e3 != 0)) || (e4 != 0)) || (!s)) || (!s2))) rfl <| g_val (!((((((e != 0) || (e2 != 0)) || (e3 != 0)) || (e4 != 0)) || (!s)) || (!s2))) (gy_f rfl) (fun hg => x_mv (v := u35z) rfl) ?_
 refine t_gbs (α := Int) T34 (!((((((e != 0) || (e2 != 0)) || (e3 != 0)) || (e4 != 0)) || (!s)) || (!s2))) (gy_f rfl) [I (-1), I 6, I 16, I 36, I 56, I 57] [(-1 : Int), (6 : Int), (16 : Int), (36 : Int), (56 : Int), (57 : Int)] H (fun _ => rfl) (.cons rfl (Flat.rep_enc _ _) <| .cons rfl (Flat.rep_enc _ _) <| .cons rfl (Flat.rep_enc _ _) <| .cons rfl (Flat.rep_enc _ _) <| .cons rfl (Flat.rep_enc _ _) <| .cons rfl (Flat.rep_enc _ _) <| .nil) rfl rfl rfl ?_
 intro v63z Bs_23 w64z H hf65z
 obtain ⟨s3, hx66z, hM⟩ := M.e_bind hM
 replace hx66z := M.e_pure hx66z
 refine t_gcall (!((((((e != 0) || (e2 != 0)) || (e3 != 0)) || (e4 != 0)) || (!s)) || (!s2))) (gy_f rfl) cf25 (B s3) (fun _ => [u35z, v63z]) (fun hg => lst2 (gd_of (c := !((((((e != 0) || (e2 != 0)) || (e3 != 0)) || (e4 != 0)) || (!s)) || (!s2))) hg (u35z)) (gd_of (c := !((((((e != 0) || (e2 != 0)) || (e3 != 0)) || (e4 != 0)) || (!s)) || (!s2))) hg (v63z))) H (fun hg => Ret.mono (same_int _ (hs36z.mono (roLe _ (H.get (k := 7) rfl))) ((hf65z hg).mono (roLe _ (H.get (k := 0) rfl)))) fun v_ w_ ⟨hv_, hx_⟩ => ⟨hv_.trans (congrArg B hx66z), H.ext hx_⟩) ?_
 intro w67z H
 refine g_val (!((((((e != 0) || (e2 != 0)) || (e3 != 0)) || (e4 != 0)) || (!s)) || (!s2))) (gy_f rfl) (fun hg => x_not (b := s3) (gd_of (c := !((((((e != 0) || (e2 != 0)) || (e3 != 0)) || (e4 != 0)) || (!s)) || (!s2))) hg (B s3))) <| s_val (x_por (b := ((((((e != 0) || (e2 != 0)) || (e3 != 0)) || (e4 != 0)) || (!s)) || (!s2))) (r := !s3) rfl rfl (fun hb => gd_of (c := !((((((e != 0) || (e2 != 0)) || (e3 != 0)) || (e4 != 0)) || (!s)) || (!s2))) (by simp_all) (B (!s3)))) <| sM (B (((((((e != 0) || (e2 != 0)) || (e3 != 0)) || (e4 != 0)) || (!s)) || (!s2)) || (!s3))) rfl <| g_val (!(((((((e != 0) || (e2 != 0)) || (e3 != 0)) || (e4 != 0)) || (!s)) || (!s2)) || (!s3))) (gy_f rfl) (fun hg => x_mv (v := u48z) rfl) ?_
 refine t_gbs (α := Int) T34 (!(((((((e != 0) || (e2 != 0)) || (e3 != 0)) || (e4 != 0)) || (!s)) || (!s2)) || (!s3))) (gy_f rfl) [I 0, I 2, I 4, I 5] [(0 : Int), (2 : Int), (4 : Int), (5 : Int)] H (fun _ => rfl) (.cons rfl (Flat.rep_enc _ _) <| .cons rfl (Flat.rep_enc _ _) <| .cons rfl (Flat.rep_enc _ _) <| .cons rfl (Flat.rep_enc _ _) <| .nil) rfl rfl rfl ?_
 intro v68z Bs_24 w69z H hf70z
 obtain ⟨s4, hx71z, hM⟩ := M.e_bind hM
 replace hx71z := M.e_pure hx71z
 refine t_gcall (!(((((((e != 0) || (e2 != 0)) || (e3 != 0)) || (e4 != 0)) || (!s)) || (!s2)) || (!s3))) (gy_f rfl) cf25 (B s4) (fun _ => [u48z, v68z]) (fun hg => lst2 (gd_of (c := !(((((((e != 0) || (e2 != 0)) || (e3 != 0)) || (e4 != 0)) || (!s)) || (!s2)) || (!s3))) hg (u48z)) (gd_of (c := !(((((((e != 0) || (e2 != 0)) || (e3 != 0)) || (e4 != 0)) || (!s)) || (!s2)) || (!s3))) hg (v68z))) H (fun hg => Ret.mono (same_int _ (hs49z.mono (roLe _ (H.get (k := 4) rfl))) ((hf70z hg).mono (roLe _ (H.get (k := 0) rfl)))) fun v_ w_ ⟨hv_, hx_⟩ => ⟨hv_.trans (congrArg B hx71z), H.ext hx_⟩) ?_
 intro w72z H
 refine g_val (!(((((((e != 0) || (e2 != 0)) || (e3 != 0)) || (e4 != 0)) || (!s)) || (!s2)) || (!s3))) (gy_f rfl) (fun hg => x_not (b := s4) (gd_of (c := !(((((((e != 0) || (e2 != 0)) || (e3 != 0)) || (e4 != 0)) || (!s)) || (!s2)) || (!s3))) hg (B s4))) <| s_val (x_por (b := (((((((e != 0) || (e2 != 0)) || (e3 != 0)) || (e4 != 0)) || (!s)) || (!s2)) || (!s3))) (r := !s4) rfl rfl (fun hb => gd_of (c := !(((((((e != 0) || (e2 != 0)) || (e3 != 0)) || (e4 != 0)) || (!s)) || (!s2)) || (!s3))) (by simp_all) (B (!s4)))) <| s_nil ?_
 refine W.cond ((((((((e != 0) || (e2 != 0)) || (e3 != 0)) || (e4 != 0)) || (!s)) || (!s2)) || (!s3)) || (!s4)) rfl (fun c73z => ?_) (fun c73z => ?_)
 ·replace hM := M.e_t hM c73z
  refine W.seq <| W.region rfl <| sA (B false) rfl <| s_nil ?_
  refine W.ret ?_
  have hr_ := M.e_pure hM
  exact ⟨_, resE_tmp rfl, ⟨false, hr_, rfl, (H.pick [] (by decide) rfl)⟩⟩
 replace hM := M.e_f hM c73z
 refine W.skip <| W.seq <| W.region rfl ?_
 obtain ⟨r75z, hx74z, hM⟩ := M.e_bind hM
 refine s_call cf79 [] rfl (nilometerlaw13_Six_ok hx74z _ (St.give (T := [cRo Bs_24, cRo Bs_23, cRo Bs_22, cRo Bs_21, cRo Bs_20, cOwn (α := Int) 3 v45z ([(0 : Int)]), cOwn (α := Raw 2) 60 u0_16 rr1_17, cRo Bs2_18, cRo Bs_15, cOwn (α := Int) 3 v32z ([(1 : Int)]), cOwn (α := Raw 2) 60 u0_11 rr1_12, cRo Bs2_13, cRo Bs_10, cOwn (α := Int) 3 v19z ([(0 : Int)]), cOwn (α := Raw 2) 60 u0_6 rr1_7, cRo Bs2_8, cRo Bs_5, cOwn (α := Note) 30 v6z ([(⟨(0 : Int), (2 : Int), (7 : Int)⟩ : Note), (⟨(1 : Int), (0 : Int), (9 : Int)⟩ : Note)]), cOwn (α := Raw 2) 60 u0_1 rr1_2, cRo Bs2_3]) H rfl)) ?_
 rintro vq w76z ⟨r6, u0_25, rr1_26, Bs2_27, hr77z, hvq, H2_, hf78z⟩
 subst hr77z
 subst vq
 try dsimp only at hM
 replace H : St w w76z [cOwn (α := Raw 2) 60 u0_25 rr1_26, cRo Bs2_27, cRo Bs_24, cRo Bs_23, cRo Bs_22, cRo Bs_21, cRo Bs_20, cOwn (α := Int) 3 v45z ([(0 : Int)]), cOwn (α := Raw 2) 60 u0_16 rr1_17, cRo Bs2_18, cRo Bs_15, cOwn (α := Int) 3 v32z ([(1 : Int)]), cOwn (α := Raw 2) 60 u0_11 rr1_12, cRo Bs2_13, cRo Bs_10, cOwn (α := Int) 3 v19z ([(0 : Int)]), cOwn (α := Raw 2) 60 u0_6 rr1_7, cRo Bs2_8, cRo Bs_5, cOwn (α := Note) 30 v6z ([(⟨(0 : Int), (2 : Int), (7 : Int)⟩ : Note), (⟨(1 : Int), (0 : Int), (9 : Int)⟩ : Note)]), cOwn (α := Raw 2) 60 u0_1 rr1_2, cRo Bs2_3] R := H.back H2_ rfl
 clear H2_
 refine t_bs (α := Int) T34 [I 0] [(0 : Int)] H rfl (.cons rfl (Flat.rep_enc _ (0 : Int)) <| .nil) rfl rfl rfl ?_
 intro v79z w80z H
 refine t_bs (α := Int) T34 [I 0, I 2, I 4, I 5] [(0 : Int), (2 : Int), (4 : Int), (5 : Int)] H rfl (.cons rfl (Flat.rep_enc _ (0 : Int)) <| .cons rfl (Flat.rep_enc _ (2 : Int)) <| .cons rfl (Flat.rep_enc _ (4 : Int)) <| .cons rfl (Flat.rep_enc _ (5 : Int)) <| .nil) rfl rfl rfl ?_
 intro v81z w82z H
 obtain ⟨r84z, hx83z, hM⟩ := M.e_bind hM
 refine s_call cf34 [u0_25, v79z, v81z] rfl (notes_Fences_ok r6 ([(0 : Int)]) ([(0 : Int), (2 : Int), (4 : Int), (5 : Int)]) (Reads.sup (Reads.of (k := 2) rfl ownLe) (Reads.of (k := 3) rfl roLe)) (rowSl rfl (H.get (k := 2) rfl) (roLe _ (H.get (k := 3) rfl)) hf78z) (Reads.of (k := 1) rfl ownLe) (ownSl (H.get (k := 1) rfl)) (Reads.of (k := 0) rfl ownLe) (ownSl (H.get (k := 0) rfl)) hx83z _ (St.give (T := [cOwn (α := Int) 3 v81z ([(0 : Int), (2 : Int), (4 : Int), (5 : Int)]), cOwn (α := Int) 3 v79z ([(0 : Int)]), cOwn (α := Raw 2) 60 u0_25 rr1_26, cRo Bs2_27, cRo Bs_24, cRo Bs_23, cRo Bs_22, cRo Bs_21, cRo Bs_20, cOwn (α := Int) 3 v45z ([(0 : Int)]), cOwn (α := Raw 2) 60 u0_16 rr1_17, cRo Bs2_18, cRo Bs_15, cOwn (α := Int) 3 v32z ([(1 : Int)]), cOwn (α := Raw 2) 60 u0_11 rr1_12, cRo Bs2_13, cRo Bs_10, cOwn (α := Int) 3 v19z ([(0 : Int)]), cOwn (α := Raw 2) 60 u0_6 rr1_7, cRo Bs2_8, cRo Bs_5, cOwn (α := Note) 30 v6z ([(⟨(0 : Int), (2 : Int), (7 : Int)⟩ : Note), (⟨(1 : Int), (0 : Int), (9 : Int)⟩ : Note)]), cOwn (α := Raw 2) 60 u0_1 rr1_2, cRo Bs2_3]) H rfl)) ?_
 rintro vq w85z ⟨r0, r1, hr86z, hvq, H2_⟩
 subst hr86z
 subst vq
 try dsimp only at hM
 replace H : St w w85z [cOwn (α := Int) 3 v81z ([(0 : Int), (2 : Int), (4 : Int), (5 : Int)]), cOwn (α := Int) 3 v79z ([(0 : Int)]), cOwn (α := Raw 2) 60 u0_25 rr1_26, cRo Bs2_27, cRo Bs_24, cRo Bs_23, cRo Bs_22, cRo Bs_21, cRo Bs_20, cOwn (α := Int) 3 v45z ([(0 : Int)]), cOwn (α := Raw 2) 60 u0_16 rr1_17, cRo Bs2_18, cRo Bs_15, cOwn (α := Int) 3 v32z ([(1 : Int)]), cOwn (α := Raw 2) 60 u0_11 rr1_12, cRo Bs2_13, cRo Bs_10, cOwn (α := Int) 3 v19z ([(0 : Int)]), cOwn (α := Raw 2) 60 u0_6 rr1_7, cRo Bs2_8, cRo Bs_5, cOwn (α := Note) 30 v6z ([(⟨(0 : Int), (2 : Int), (7 : Int)⟩ : Note), (⟨(1 : Int), (0 : Int), (9 : Int)⟩ : Note)]), cOwn (α := Raw 2) 60 u0_1 rr1_2, cRo Bs2_3] R := H.back H2_ rfl
 clear H2_
 refine sM (.tuple #[B r0, I r1]) rfl <| s_val (x_ext (vs := [B r0, I r1]) (v := B r0) rfl rfl) <| s_val (x_ext (vs := [B r0, I r1]) (v := I r1) rfl rfl) <| sA (B r0) rfl <| sA (I r1) rfl <| s_nil <| W.seq <| W.region rfl ?_
 obtain ⟨r88z, hx87z, hM⟩ := M.e_bind hM
 refine s_call cf79 [] rfl (nilometerlaw13_Six_ok hx87z _ (St.give (T := [cOwn (α := Int) 3 v81z ([(0 : Int), (2 : Int), (4 : Int), (5 : Int)]), cOwn (α := Int) 3 v79z ([(0 : Int)]), cOwn (α := Raw 2) 60 u0_25 rr1_26, cRo Bs2_27, cRo Bs_24, cRo Bs_23, cRo Bs_22, cRo Bs_21, cRo Bs_20, cOwn (α := Int) 3 v45z ([(0 : Int)]), cOwn (α := Raw 2) 60 u0_16 rr1_17, cRo Bs2_18, cRo Bs_15, cOwn (α := Int) 3 v32z ([(1 : Int)]), cOwn (α := Raw 2) 60 u0_11 rr1_12, cRo Bs2_13, cRo Bs_10, cOwn (α := Int) 3 v19z ([(0 : Int)]), cOwn (α := Raw 2) 60 u0_6 rr1_7, cRo Bs2_8, cRo Bs_5, cOwn (α := Note) 30 v6z ([(⟨(0 : Int), (2 : Int), (7 : Int)⟩ : Note), (⟨(1 : Int), (0 : Int), (9 : Int)⟩ : Note)]), cOwn (α := Raw 2) 60 u0_1 rr1_2, cRo Bs2_3]) H rfl)) ?_
 rintro vq w89z ⟨r7, u0_30, rr1_31, Bs2_32, hr90z, hvq, H2_, hf91z⟩
 subst hr90z
 subst vq
 try dsimp only at hM
 replace H : St w w89z [cOwn (α := Raw 2) 60 u0_30 rr1_31, cRo Bs2_32, cOwn (α := Int) 3 v81z ([(0 : Int), (2 : Int), (4 : Int), (5 : Int)]), cOwn (α := Int) 3 v79z ([(0 : Int)]), cOwn (α := Raw 2) 60 u0_25 rr1_26, cRo Bs2_27, cRo Bs_24, cRo Bs_23, cRo Bs_22, cRo Bs_21, cRo Bs_20, cOwn (α := Int) 3 v45z ([(0 : Int)]), cOwn (α := Raw 2) 60 u0_16 rr1_17, cRo Bs2_18, cRo Bs_15, cOwn (α := Int) 3 v32z ([(1 : Int)]), cOwn (α := Raw 2) 60 u0_11 rr1_12, cRo Bs2_13, cRo Bs_10, cOwn (α := Int) 3 v19z ([(0 : Int)]), cOwn (α := Raw 2) 60 u0_6 rr1_7, cRo Bs2_8, cRo Bs_5, cOwn (α := Note) 30 v6z ([(⟨(0 : Int), (2 : Int), (7 : Int)⟩ : Note), (⟨(1 : Int), (0 : Int), (9 : Int)⟩ : Note)]), cOwn (α := Raw 2) 60 u0_1 rr1_2, cRo Bs2_3] R := H.back H2_ rfl
 clear H2_
 refine t_bs (α := Int) T34 [I 0] [(0 : Int)] H rfl (.cons rfl (Flat.rep_enc _ (0 : Int)) <| .nil) rfl rfl rfl ?_
 intro v92z w93z H
 refine t_bs (α := Int) T34 [I 0, I 2, I 4] [(0 : Int), (2 : Int), (4 : Int)] H rfl (.cons rfl (Flat.rep_enc _ (0 : Int)) <| .cons rfl (Flat.rep_enc _ (2 : Int)) <| .cons rfl (Flat.rep_enc _ (4 : Int)) <| .nil) rfl rfl rfl ?_
 intro v94z w95z H
 obtain ⟨r97z, hx96z, hM⟩ := M.e_bind hM
 refine s_call cf34 [u0_30, v92z, v94z] rfl (notes_Fences_ok r7 ([(0 : Int)]) ([(0 : Int), (2 : Int), (4 : Int)]) (Reads.sup (Reads.of (k := 2) rfl ownLe) (Reads.of (k := 3) rfl roLe)) (rowSl rfl (H.get (k := 2) rfl) (roLe _ (H.get (k := 3) rfl)) hf91z) (Reads.of (k := 1) rfl ownLe) (ownSl (H.get (k := 1) rfl)) (Reads.of (k := 0) rfl ownLe) (ownSl (H.get (k := 0) rfl)) hx96z _ (St.give (T := [cOwn (α := Int) 3 v94z ([(0 : Int), (2 : Int), (4 : Int)]), cOwn (α := Int) 3 v92z ([(0 : Int)]), cOwn (α := Raw 2) 60 u0_30 rr1_31, cRo Bs2_32, cOwn (α := Int) 3 v81z ([(0 : Int), (2 : Int), (4 : Int), (5 : Int)]), cOwn (α := Int) 3 v79z ([(0 : Int)]), cOwn (α := Raw 2) 60 u0_25 rr1_26, cRo Bs2_27, cRo Bs_24, cRo Bs_23, cRo Bs_22, cRo Bs_21, cRo Bs_20, cOwn (α := Int) 3 v45z ([(0 : Int)]), cOwn (α := Raw 2) 60 u0_16 rr1_17, cRo Bs2_18, cRo Bs_15, cOwn (α := Int) 3 v32z ([(1 : Int)]), cOwn (α := Raw 2) 60 u0_11 rr1_12, cRo Bs2_13, cRo Bs_10, cOwn (α := Int) 3 v19z ([(0 : Int)]), cOwn (α := Raw 2) 60 u0_6 rr1_7, cRo Bs2_8, cRo Bs_5, cOwn (α := Note) 30 v6z ([(⟨(0 : Int), (2 : Int), (7 : Int)⟩ : Note), (⟨(1 : Int), (0 : Int), (9 : Int)⟩ : Note)]), cOwn (α := Raw 2) 60 u0_1 rr1_2, cRo Bs2_3]) H rfl)) ?_
 rintro vq w98z ⟨r02, r12, hr99z, hvq, H2_⟩
 subst hr99z
 subst vq
 try dsimp only at hM
 replace H : St w w98z [cOwn (α := Int) 3 v94z ([(0 : Int), (2 : Int), (4 : Int)]), cOwn (α := Int) 3 v92z ([(0 : Int)]), cOwn (α := Raw 2) 60 u0_30 rr1_31, cRo Bs2_32, cOwn (α := Int) 3 v81z ([(0 : Int), (2 : Int), (4 : Int), (5 : Int)]), cOwn (α := Int) 3 v79z ([(0 : Int)]), cOwn (α := Raw 2) 60 u0_25 rr1_26, cRo Bs2_27, cRo Bs_24, cRo Bs_23, cRo Bs_22, cRo Bs_21, cRo Bs_20, cOwn (α := Int) 3 v45z ([(0 : Int)]), cOwn (α := Raw 2) 60 u0_16 rr1_17, cRo Bs2_18, cRo Bs_15, cOwn (α := Int) 3 v32z ([(1 : Int)]), cOwn (α := Raw 2) 60 u0_11 rr1_12, cRo Bs2_13, cRo Bs_10, cOwn (α := Int) 3 v19z ([(0 : Int)]), cOwn (α := Raw 2) 60 u0_6 rr1_7, cRo Bs2_8, cRo Bs_5, cOwn (α := Note) 30 v6z ([(⟨(0 : Int), (2 : Int), (7 : Int)⟩ : Note), (⟨(1 : Int), (0 : Int), (9 : Int)⟩ : Note)]), cOwn (α := Raw 2) 60 u0_1 rr1_2, cRo Bs2_3] R := H.back H2_ rfl
 clear H2_
 refine sM (.tuple #[B r02, I r12]) rfl <| s_val (x_ext (vs := [B r02, I r12]) (v := B r02) rfl rfl) <| s_val (x_ext (vs := [B r02, I r12]) (v := I r12) rfl rfl) <| sA (B r02) rfl <| sA (I r12) rfl <| s_nil <| W.seq <| W.region rfl ?_
 obtain ⟨r101z, hx100z, hM⟩ := M.e_bind hM
 refine s_call cf79 [] rfl (nilometerlaw13_Six_ok hx100z _ (St.give (T := [cOwn (α := Int) 3 v94z ([(0 : Int), (2 : Int), (4 : Int)]), cOwn (α := Int) 3 v92z ([(0 : Int)]), cOwn (α := Raw 2) 60 u0_30 rr1_31, cRo Bs2_32, cOwn (α := Int) 3 v81z ([(0 : Int), (2 : Int), (4 : Int), (5 : Int)]), cOwn (α := Int) 3 v79z ([(0 : Int)]), cOwn (α := Raw 2) 60 u0_25 rr1_26, cRo Bs2_27, cRo Bs_24, cRo Bs_23, cRo Bs_22, cRo Bs_21, cRo Bs_20, cOwn (α := Int) 3 v45z ([(0 : Int)]), cOwn (α := Raw 2) 60 u0_16 rr1_17, cRo Bs2_18, cRo Bs_15, cOwn (α := Int) 3 v32z ([(1 : Int)]), cOwn (α := Raw 2) 60 u0_11 rr1_12, cRo Bs2_13, cRo Bs_10, cOwn (α := Int) 3 v19z ([(0 : Int)]), cOwn (α := Raw 2) 60 u0_6 rr1_7, cRo Bs2_8, cRo Bs_5, cOwn (α := Note) 30 v6z ([(⟨(0 : Int), (2 : Int), (7 : Int)⟩ : Note), (⟨(1 : Int), (0 : Int), (9 : Int)⟩ : Note)]), cOwn (α := Raw 2) 60 u0_1 rr1_2, cRo Bs2_3]) H rfl)) ?_
 rintro vq w102z ⟨r8, u0_35, rr1_36, Bs2_37, hr103z, hvq, H2_, hf104z⟩
 subst hr103z
 subst vq
 try dsimp only at hM
 replace H : St w w102z [cOwn (α := Raw 2) 60 u0_35 rr1_36, cRo Bs2_37, cOwn (α := Int) 3 v94z ([(0 : Int), (2 : Int), (4 : Int)]), cOwn (α := Int) 3 v92z ([(0 : Int)]), cOwn (α := Raw 2) 60 u0_30 rr1_31, cRo Bs2_32, cOwn (α := Int) 3 v81z ([(0 : Int), (2 : Int), (4 : Int), (5 : Int)]), cOwn (α := Int) 3 v79z ([(0 : Int)]), cOwn (α := Raw 2) 60 u0_25 rr1_26, cRo Bs2_27, cRo Bs_24, cRo Bs_23, cRo Bs_22, cRo Bs_21, cRo Bs_20, cOwn (α := Int) 3 v45z ([(0 : Int)]), cOwn (α := Raw 2) 60 u0_16 rr1_17, cRo Bs2_18, cRo Bs_15, cOwn (α := Int) 3 v32z ([(1 : Int)]), cOwn (α := Raw 2) 60 u0_11 rr1_12, cRo Bs2_13, cRo Bs_10, cOwn (α := Int) 3 v19z ([(0 : Int)]), cOwn (α := Raw 2) 60 u0_6 rr1_7, cRo Bs2_8, cRo Bs_5, cOwn (α := Note) 30 v6z ([(⟨(0 : Int), (2 : Int), (7 : Int)⟩ : Note), (⟨(1 : Int), (0 : Int), (9 : Int)⟩ : Note)]), cOwn (α := Raw 2) 60 u0_1 rr1_2, cRo Bs2_3] R := H.back H2_ rfl
 clear H2_
 refine t_bs (α := Int) T34 [I 1] [(1 : Int)] H rfl (.cons rfl (Flat.rep_enc _ (1 : Int)) <| .nil) rfl rfl rfl ?_
 intro v105z w106z H
 obtain ⟨r108z, hx107z, hM⟩ := M.e_bind hM
 refine s_call cf64 [u0_35, v105z, I 4] rfl (notes_Freeze_ok r8 ([(1 : Int)]) 4 (Reads.sup (Reads.of (k := 1) rfl ownLe) (Reads.of (k := 2) rfl roLe)) (rowSl rfl (H.get (k := 1) rfl) (roLe _ (H.get (k := 2) rfl)) hf104z) (Reads.of (k := 0) rfl ownLe) (ownSl (H.get (k := 0) rfl)) hx107z _ (St.give (T := [cOwn (α := Int) 3 v105z ([(1 : Int)]), cOwn (α := Raw 2) 60 u0_35 rr1_36, cRo Bs2_37, cOwn (α := Int) 3 v94z ([(0 : Int), (2 : Int), (4 : Int)]), cOwn (α := Int) 3 v92z ([(0 : Int)]), cOwn (α := Raw 2) 60 u0_30 rr1_31, cRo Bs2_32, cOwn (α := Int) 3 v81z ([(0 : Int), (2 : Int), (4 : Int), (5 : Int)]), cOwn (α := Int) 3 v79z ([(0 : Int)]), cOwn (α := Raw 2) 60 u0_25 rr1_26, cRo Bs2_27, cRo Bs_24, cRo Bs_23, cRo Bs_22, cRo Bs_21, cRo Bs_20, cOwn (α := Int) 3 v45z ([(0 : Int)]), cOwn (α := Raw 2) 60 u0_16 rr1_17, cRo Bs2_18, cRo Bs_15, cOwn (α := Int) 3 v32z ([(1 : Int)]), cOwn (α := Raw 2) 60 u0_11 rr1_12, cRo Bs2_13, cRo Bs_10, cOwn (α := Int) 3 v19z ([(0 : Int)]), cOwn (α := Raw 2) 60 u0_6 rr1_7, cRo Bs2_8, cRo Bs_5, cOwn (α := Note) 30 v6z ([(⟨(0 : Int), (2 : Int), (7 : Int)⟩ : Note), (⟨(1 : Int), (0 : Int), (9 : Int)⟩ : Note)]), cOwn (α := Raw 2) 60 u0_1 rr1_2, cRo Bs2_3]) H rfl)) ?_
 rintro vq w109z ⟨r03, r13, u0_39, hr110z, hvq, H2_⟩
 subst hr110z
 subst vq
 try dsimp only at hM
 replace H : St w w109z [cOwn (α := Int) 3 u0_39 r03, cOwn (α := Int) 3 v105z ([(1 : Int)]), cOwn (α := Raw 2) 60 u0_35 rr1_36, cRo Bs2_37, cOwn (α := Int) 3 v94z ([(0 : Int), (2 : Int), (4 : Int)]), cOwn (α := Int) 3 v92z ([(0 : Int)]), cOwn (α := Raw 2) 60 u0_30 rr1_31, cRo Bs2_32, cOwn (α := Int) 3 v81z ([(0 : Int), (2 : Int), (4 : Int), (5 : Int)]), cOwn (α := Int) 3 v79z ([(0 : Int)]), cOwn (α := Raw 2) 60 u0_25 rr1_26, cRo Bs2_27, cRo Bs_24, cRo Bs_23, cRo Bs_22, cRo Bs_21, cRo Bs_20, cOwn (α := Int) 3 v45z ([(0 : Int)]), cOwn (α := Raw 2) 60 u0_16 rr1_17, cRo Bs2_18, cRo Bs_15, cOwn (α := Int) 3 v32z ([(1 : Int)]), cOwn (α := Raw 2) 60 u0_11 rr1_12, cRo Bs2_13, cRo Bs_10, cOwn (α := Int) 3 v19z ([(0 : Int)]), cOwn (α := Raw 2) 60 u0_6 rr1_7, cRo Bs2_8, cRo Bs_5, cOwn (α := Note) 30 v6z ([(⟨(0 : Int), (2 : Int), (7 : Int)⟩ : Note), (⟨(1 : Int), (0 : Int), (9 : Int)⟩ : Note)]), cOwn (α := Raw 2) 60 u0_1 rr1_2, cRo Bs2_3] R := H.back H2_ rfl
 clear H2_
 refine sM (.tuple #[u0_39, I r13]) rfl <| s_val (x_ext (vs := [u0_39, I r13]) (v := u0_39) rfl rfl) <| s_val (x_ext (vs := [u0_39, I r13]) (v := I r13) rfl rfl) <| sA u0_39 rfl <| sA (I r13) rfl <| s_nil <| W.seq <| W.region rfl ?_
 obtain ⟨r112z, hx111z, hM⟩ := M.e_bind hM
 refine s_call cf79 [] rfl (nilometerlaw13_Six_ok hx111z _ (St.give (T := [cOwn (α := Int) 3 u0_39 r03, cOwn (α := Int) 3 v105z ([(1 : Int)]), cOwn (α := Raw 2) 60 u0_35 rr1_36, cRo Bs2_37, cOwn (α := Int) 3 v94z ([(0 : Int), (2 : Int), (4 : Int)]), cOwn (α := Int) 3 v92z ([(0 : Int)]), cOwn (α := Raw 2) 60 u0_30 rr1_31, cRo Bs2_32, cOwn (α := Int) 3 v81z ([(0 : Int), (2 : Int), (4 : Int), (5 : Int)]), cOwn (α := Int) 3 v79z ([(0 : Int)]), cOwn (α := Raw 2) 60 u0_25 rr1_26, cRo Bs2_27, cRo Bs_24, cRo Bs_23, cRo Bs_22, cRo Bs_21, cRo Bs_20, cOwn (α := Int) 3 v45z ([(0 : Int)]), cOwn (α := Raw 2) 60 u0_16 rr1_17, cRo Bs2_18, cRo Bs_15, cOwn (α := Int) 3 v32z ([(1 : Int)]), cOwn (α := Raw 2) 60 u0_11 rr1_12, cRo Bs2_13, cRo Bs_10, cOwn (α := Int) 3 v19z ([(0 : Int)]), cOwn (α := Raw 2) 60 u0_6 rr1_7, cRo Bs2_8, cRo Bs_5, cOwn (α := Note) 30 v6z ([(⟨(0 : Int), (2 : Int), (7 : Int)⟩ : Note), (⟨(1 : Int), (0 : Int), (9 : Int)⟩ : Note)]), cOwn (α := Raw 2) 60 u0_1 rr1_2, cRo Bs2_3]) H rfl)) ?_
 rintro vq w113z ⟨r9, u0_40, rr1_41, Bs2_42, hr114z, hvq, H2_, hf115z⟩
 subst hr114z
 subst vq
 try dsimp only at hM
 replace H : St w w113z [cOwn (α := Raw 2) 60 u0_40 rr1_41, cRo Bs2_42, cOwn (α := Int) 3 u0_39 r03, cOwn (α := Int) 3 v105z ([(1 : Int)]), cOwn (α := Raw 2) 60 u0_35 rr1_36, cRo Bs2_37, cOwn (α := Int) 3 v94z ([(0 : Int), (2 : Int), (4 : Int)]), cOwn (α := Int) 3 v92z ([(0 : Int)]), cOwn (α := Raw 2) 60 u0_30 rr1_31, cRo Bs2_32, cOwn (α := Int) 3 v81z ([(0 : Int), (2 : Int), (4 : Int), (5 : Int)]), cOwn (α := Int) 3 v79z ([(0 : Int)]), cOwn (α := Raw 2) 60 u0_25 rr1_26, cRo Bs2_27, cRo Bs_24, cRo Bs_23, cRo Bs_22, cRo Bs_21, cRo Bs_20, cOwn (α := Int) 3 v45z ([(0 : Int)]), cOwn (α := Raw 2) 60 u0_16 rr1_17, cRo Bs2_18, cRo Bs_15, cOwn (α := Int) 3 v32z ([(1 : Int)]), cOwn (α := Raw 2) 60 u0_11 rr1_12, cRo Bs2_13, cRo Bs_10, cOwn (α := Int) 3 v19z ([(0 : Int)]), cOwn (α := Raw 2) 60 u0_6 rr1_7, cRo Bs2_8, cRo Bs_5, cOwn (α := Note) 30 v6z ([(⟨(0 : Int), (2 : Int), (7 : Int)⟩ : Note), (⟨(1 : Int), (0 : Int), (9 : Int)⟩ : Note)]), cOwn (α := Raw 2) 60 u0_1 rr1_2, cRo Bs2_3] R := H.back H2_ rfl
 clear H2_
 refine t_bs (α := Int) T34 [I 1] [(1 : Int)] H rfl (.cons rfl (Flat.rep_enc _ (1 : Int)) <| .nil) rfl rfl rfl ?_
 intro v116z w117z H
 obtain ⟨r119z, hx118z, hM⟩ := M.e_bind hM
 refine s_call cf65 [u0_40, v116z, I 4] rfl (notes_Lines_ok r9 ([(1 : Int)]) 4 (Reads.sup (Reads.of (k := 1) rfl ownLe) (Reads.of (k := 2) rfl roLe)) (rowSl rfl (H.get (k := 1) rfl) (roLe _ (H.get (k := 2) rfl)) hf115z) (Reads.of (k := 0) rfl ownLe) (ownSl (H.get (k := 0) rfl)) hx118z _ (St.give (T := [cOwn (α := Int) 3 v116z ([(1 : Int)]), cOwn (α := Raw 2) 60 u0_40 rr1_41, cRo Bs2_42, cOwn (α := Int) 3 u0_39 r03, cOwn (α := Int) 3 v105z ([(1 : Int)]), cOwn (α := Raw 2) 60 u0_35 rr1_36, cRo Bs2_37, cOwn (α := Int) 3 v94z ([(0 : Int), (2 : Int), (4 : Int)]), cOwn (α := Int) 3 v92z ([(0 : Int)]), cOwn (α := Raw 2) 60 u0_30 rr1_31, cRo Bs2_32, cOwn (α := Int) 3 v81z ([(0 : Int), (2 : Int), (4 : Int), (5 : Int)]), cOwn (α := Int) 3 v79z ([(0 : Int)]), cOwn (α := Raw 2) 60 u0_25 rr1_26, cRo Bs2_27, cRo Bs_24, cRo Bs_23, cRo Bs_22, cRo Bs_21, cRo Bs_20, cOwn (α := Int) 3 v45z ([(0 : Int)]), cOwn (α := Raw 2) 60 u0_16 rr1_17, cRo Bs2_18, cRo Bs_15, cOwn (α := Int) 3 v32z ([(1 : Int)]), cOwn (α := Raw 2) 60 u0_11 rr1_12, cRo Bs2_13, cRo Bs_10, cOwn (α := Int) 3 v19z ([(0 : Int)]), cOwn (α := Raw 2) 60 u0_6 rr1_7, cRo Bs2_8, cRo Bs_5, cOwn (α := Note) 30 v6z ([(⟨(0 : Int), (2 : Int), (7 : Int)⟩ : Note), (⟨(1 : Int), (0 : Int), (9 : Int)⟩ : Note)]), cOwn (α := Raw 2) 60 u0_1 rr1_2, cRo Bs2_3]) H rfl)) ?_
 rintro vq w120z ⟨r04, r14, u0_44, rr1_45, Bs2_46, hr121z, hvq, H2_, hf122z⟩
 subst hr121z
 subst vq
 try dsimp only at hM
 replace H : St w w120z [cOwn (α := Raw 0) 34 u0_44 rr1_45, cRo Bs2_46, cOwn (α := Int) 3 v116z ([(1 : Int)]), cOwn (α := Raw 2) 60 u0_40 rr1_41, cRo Bs2_42, cOwn (α := Int) 3 u0_39 r03, cOwn (α := Int) 3 v105z ([(1 : Int)]), cOwn (α := Raw 2) 60 u0_35 rr1_36, cRo Bs2_37, cOwn (α := Int) 3 v94z ([(0 : Int), (2 : Int), (4 : Int)]), cOwn (α := Int) 3 v92z ([(0 : Int)]), cOwn (α := Raw 2) 60 u0_30 rr1_31, cRo Bs2_32, cOwn (α := Int) 3 v81z ([(0 : Int), (2 : Int), (4 : Int), (5 : Int)]), cOwn (α := Int) 3 v79z ([(0 : Int)]), cOwn (α := Raw 2) 60 u0_25 rr1_26, cRo Bs2_27, cRo Bs_24, cRo Bs_23, cRo Bs_22, cRo Bs_21, cRo Bs_20, cOwn (α := Int) 3 v45z ([(0 : Int)]), cOwn (α := Raw 2) 60 u0_16 rr1_17, cRo Bs2_18, cRo Bs_15, cOwn (α := Int) 3 v32z ([(1 : Int)]), cOwn (α := Raw 2) 60 u0_11 rr1_12, cRo Bs2_13, cRo Bs_10, cOwn (α := Int) 3 v19z ([(0 : Int)]), cOwn (α := Raw 2) 60 u0_6 rr1_7, cRo Bs2_8, cRo Bs_5, cOwn (α := Note) 30 v6z ([(⟨(0 : Int), (2 : Int), (7 : Int)⟩ : Note), (⟨(1 : Int), (0 : Int), (9 : Int)⟩ : Note)]), cOwn (α := Raw 2) 60 u0_1 rr1_2, cRo Bs2_3] R := H.back H2_ rfl
 clear H2_
 refine sM (.tuple #[u0_44, I r14]) rfl <| s_val (x_ext (vs := [u0_44, I r14]) (v := u0_44) rfl rfl) <| s_val (x_ext (vs := [u0_44, I r14]) (v := I r14) rfl rfl) <| sA u0_44 rfl <| sA (I r14) rfl <| s_nil <| W.seq <| W.region rfl ?_
 obtain ⟨r124z, hx123z, hM⟩ := M.e_bind hM
 refine s_call cf79 [] rfl (nilometerlaw13_Six_ok hx123z _ (St.give (T := [cOwn (α := Raw 0) 34 u0_44 rr1_45, cRo Bs2_46, cOwn (α := Int) 3 v116z ([(1 : Int)]), cOwn (α := Raw 2) 60 u0_40 rr1_41, cRo Bs2_42, cOwn (α := Int) 3 u0_39 r03, cOwn (α := Int) 3 v105z ([(1 : Int)]), cOwn (α := Raw 2) 60 u0_35 rr1_36, cRo Bs2_37, cOwn (α := Int) 3 v94z ([(0 : Int), (2 : Int), (4 : Int)]), cOwn (α := Int) 3 v92z ([(0 : Int)]), cOwn (α := Raw 2) 60 u0_30 rr1_31, cRo Bs2_32, cOwn (α := Int) 3 v81z ([(0 : Int), (2 : Int), (4 : Int), (5 : Int)]), cOwn (α := Int) 3 v79z ([(0 : Int)]), cOwn (α := Raw 2) 60 u0_25 rr1_26, cRo Bs2_27, cRo Bs_24, cRo Bs_23, cRo Bs_22, cRo Bs_21, cRo Bs_20, cOwn (α := Int) 3 v45z ([(0 : Int)]), cOwn (α := Raw 2) 60 u0_16 rr1_17, cRo Bs2_18, cRo Bs_15, cOwn (α := Int) 3 v32z ([(1 : Int)]), cOwn (α := Raw 2) 60 u0_11 rr1_12, cRo Bs2_13, cRo Bs_10, cOwn (α := Int) 3 v19z ([(0 : Int)]), cOwn (α := Raw 2) 60 u0_6 rr1_7, cRo Bs2_8, cRo Bs_5, cOwn (α := Note) 30 v6z ([(⟨(0 : Int), (2 : Int), (7 : Int)⟩ : Note), (⟨(1 : Int), (0 : Int), (9 : Int)⟩ : Note)]), cOwn (α := Raw 2) 60 u0_1 rr1_2, cRo Bs2_3]) H rfl)) ?_
 rintro vq w125z ⟨r10, u0_47, rr1_48, Bs2_49, hr126z, hvq, H2_, hf127z⟩
 subst hr126z
 subst vq
 try dsimp only at hM
 replace H : St w w125z [cOwn (α := Raw 2) 60 u0_47 rr1_48, cRo Bs2_49, cOwn (α := Raw 0) 34 u0_44 rr1_45, cRo Bs2_46, cOwn (α := Int) 3 v116z ([(1 : Int)]), cOwn (α := Raw 2) 60 u0_40 rr1_41, cRo Bs2_42, cOwn (α := Int) 3 u0_39 r03, cOwn (α := Int) 3 v105z ([(1 : Int)]), cOwn (α := Raw 2) 60 u0_35 rr1_36, cRo Bs2_37, cOwn (α := Int) 3 v94z ([(0 : Int), (2 : Int), (4 : Int)]), cOwn (α := Int) 3 v92z ([(0 : Int)]), cOwn (α := Raw 2) 60 u0_30 rr1_31, cRo Bs2_32, cOwn (α := Int) 3 v81z ([(0 : Int), (2 : Int), (4 : Int), (5 : Int)]), cOwn (α := Int) 3 v79z ([(0 : Int)]), cOwn (α := Raw 2) 60 u0_25 rr1_26, cRo Bs2_27, cRo Bs_24, cRo Bs_23, cRo Bs_22, cRo Bs_21, cRo Bs_20, cOwn (α := Int) 3 v45z ([(0 : Int)]), cOwn (α := Raw 2) 60 u0_16 rr1_17, cRo Bs2_18, cRo Bs_15, cOwn (α := Int) 3 v32z ([(1 : Int)]), cOwn (α := Raw 2) 60 u0_11 rr1_12, cRo Bs2_13, cRo Bs_10, cOwn (α := Int) 3 v19z ([(0 : Int)]), cOwn (α := Raw 2) 60 u0_6 rr1_7, cRo Bs2_8, cRo Bs_5, cOwn (α := Note) 30 v6z ([(⟨(0 : Int), (2 : Int), (7 : Int)⟩ : Note), (⟨(1 : Int), (0 : Int), (9 : Int)⟩ : Note)]), cOwn (α := Raw 2) 60 u0_1 rr1_2, cRo Bs2_3] R := H.back H2_ rfl
 clear H2_
 refine t_bs (α := Int) T34 [I 1] [(1 : Int)] H rfl (.cons rfl (Flat.rep_enc _ (1 : Int)) <| .nil) rfl rfl rfl ?_
 intro v128z w129z H
 obtain ⟨r131z, hx130z, hM⟩ := M.e_bind hM
 refine s_call cf64 [u0_47, v128z, I 3] rfl (notes_Freeze_ok r10 ([(1 : Int)]) 3 (Reads.sup (Reads.of (k := 1) rfl ownLe) (Reads.of (k := 2) rfl roLe)) (rowSl rfl (H.get (k := 1) rfl) (roLe _ (H.get (k := 2) rfl)) hf127z) (Reads.of (k := 0) rfl ownLe) (ownSl (H.get (k := 0) rfl)) hx130z _ (St.give (T := [cOwn (α := Int) 3 v128z ([(1 : Int)]), cOwn (α := Raw 2) 60 u0_47 rr1_48, cRo Bs2_49, cOwn (α := Raw 0) 34 u0_44 rr1_45, cRo Bs2_46, cOwn (α := Int) 3 v116z ([(1 : Int)]), cOwn (α := Raw 2) 60 u0_40 rr1_41, cRo Bs2_42, cOwn (α := Int) 3 u0_39 r03, cOwn (α := Int) 3 v105z ([(1 : Int)]), cOwn (α := Raw 2) 60 u0_35 rr1_36, cRo Bs2_37, cOwn (α := Int) 3 v94z ([(0 : Int), (2 : Int), (4 : Int)]), cOwn (α := Int) 3 v92z ([(0 : Int)]), cOwn (α := Raw 2) 60 u0_30 rr1_31, cRo Bs2_32, cOwn (α := Int) 3 v81z ([(0 : Int), (2 : Int), (4 : Int), (5 : Int)]), cOwn (α := Int) 3 v79z ([(0 : Int)]), cOwn (α := Raw 2) 60 u0_25 rr1_26, cRo Bs2_27, cRo Bs_24, cRo Bs_23, cRo Bs_22, cRo Bs_21, cRo Bs_20, cOwn (α := Int) 3 v45z ([(0 : Int)]), cOwn (α := Raw 2) 60 u0_16 rr1_17, cRo Bs2_18, cRo Bs_15, cOwn (α := Int) 3 v32z ([(1 : Int)]), cOwn (α := Raw 2) 60 u0_11 rr1_12, cRo Bs2_13, cRo Bs_10, cOwn (α := Int) 3 v19z ([(0 : Int)]), cOwn (α := Raw 2) 60 u0_6 rr1_7, cRo Bs2_8, cRo Bs_5, cOwn (α := Note) 30 v6z ([(⟨(0 : Int), (2 : Int), (7 : Int)⟩ : Note), (⟨(1 : Int), (0 : Int), (9 : Int)⟩ : Note)]), cOwn (α := Raw 2) 60 u0_1 rr1_2, cRo Bs2_3]) H rfl)) ?_
 rintro vq w132z ⟨r05, r15, u0_51, hr133z, hvq, H2_⟩
 subst hr133z
 subst vq
 try dsimp only at hM
 replace H : St w w132z [cOwn (α := Int) 3 u0_51 r05, cOwn (α := Int) 3 v128z ([(1 : Int)]), cOwn (α := Raw 2) 60 u0_47 rr1_48, cRo Bs2_49, cOwn (α := Raw 0) 34 u0_44 rr1_45, cRo Bs2_46, cOwn (α := Int) 3 v116z ([(1 : Int)]), cOwn (α := Raw 2) 60 u0_40 rr1_41, cRo Bs2_42, cOwn (α := Int) 3 u0_39 r03, cOwn (α := Int) 3 v105z ([(1 : Int)]), cOwn (α := Raw 2) 60 u0_35 rr1_36, cRo Bs2_37, cOwn (α := Int) 3 v94z ([(0 : Int), (2 : Int), (4 : Int)]), cOwn (α := Int) 3 v92z ([(0 : Int)]), cOwn (α := Raw 2) 60 u0_30 rr1_31, cRo Bs2_32, cOwn (α := Int) 3 v81z ([(0 : Int), (2 : Int), (4 : Int), (5 : Int)]), cOwn (α := Int) 3 v79z ([(0 : Int)]), cOwn (α := Raw 2) 60 u0_25 rr1_26, cRo Bs2_27, cRo Bs_24, cRo Bs_23, cRo Bs_22, cRo Bs_21, cRo Bs_20, cOwn (α := Int) 3 v45z ([(0 : Int)]), cOwn (α := Raw 2) 60 u0_16 rr1_17, cRo Bs2_18, cRo Bs_15, cOwn (α := Int) 3 v32z ([(1 : Int)]), cOwn (α := Raw 2) 60 u0_11 rr1_12, cRo Bs2_13, cRo Bs_10, cOwn (α := Int) 3 v19z ([(0 : Int)]), cOwn (α := Raw 2) 60 u0_6 rr1_7, cRo Bs2_8, cRo Bs_5, cOwn (α := Note) 30 v6z ([(⟨(0 : Int), (2 : Int), (7 : Int)⟩ : Note), (⟨(1 : Int), (0 : Int), (9 : Int)⟩ : Note)]), cOwn (α := Raw 2) 60 u0_1 rr1_2, cRo Bs2_3] R := H.back H2_ rfl
 clear H2_
 refine sM (.tuple #[u0_51, I r15]) rfl <| s_val (x_ext (vs := [u0_51, I r15]) (v := u0_51) rfl rfl) <| s_val (x_ext (vs := [u0_51, I r15]) (v := I r15) rfl rfl) <| sA u0_51 rfl <| sA (I r15) rfl <| s_nil <| W.seq <| W.seq <| W.region rfl <| sM (I r1) rfl <| sC r1 0 (r1 != 0) rfl rfl rfl <| sM (B (r1 != 0)) rfl ?_
 refine g_val (!(r1 != 0)) (gy_f rfl) (fun hg => x_mv (v := I r12) rfl) <| g_val (!(r1 != 0)) (gy_f rfl) (fun hg => x_cmp (kd := .i64) (a := r12) (b := 0) (r := r12 != 0) (gd_of (c := !(r1 != 0)) hg (I r12)) rfl rfl) <| s_val (x_por (b := r1 != 0) (r := r12 != 0) rfl rfl (fun hb => gd_of (c := !(r1 != 0)) (by simp_all) (B (r12 != 0)))) <| sM (B ((r1 != 0) || (r12 != 0))) rfl <| g_val (!((r1 != 0) || (r12 != 0))) (gy_f rfl) (fun hg => x_mv (v := I r13) rfl) <| g_val (!((r1 != 0) || (r12 != 0))) (gy_f rfl) (fun hg => x_cmp (kd := .i64) (a := r13) (b := 0) (r := r13 != 0) (gd_of (c := !((r1 != 0) || (r12 != 0))) hg (I r13)) rfl rfl) <| s_val (x_por (b := ((r1 != 0) || (r12 != 0))) (r := r13 != 0) rfl rfl (fun hb => gd_of (c := !((r1 != 0) || (r12 != 0))) (by simp_all) (B (r13 != 0)))) <| sM (B (((r1 != 0) || (r12 != 0)) || (r13 != 0))) rfl <| g_val (!(((r1 != 0) || (r12 != 0)) || (r13 != 0))) (gy_f rfl) (fun hg => x_mv (v := I r14) rfl) <| g_val (!(((r1 != 0) || (r12 != 0)) || (r13 != 0))) (gy_f rfl) (fun hg => x_cmp (kd := .i64) (a := r14) (b := 0) (r := r14 != 0) (gd_of (c := !(((r1 != 0) || (r12 != 0)) || (r13 != 0))) hg (I r14)) rfl rfl) <| s_val (x_por (b := (((r1 != 0) || (r12 != 0)) || (r13 != 0))) (r := r14 != 0) rfl rfl (fun hb => gd_of (c := !(((r1 != 0) || (r12 != 0)) || (r13 != 0))) (by simp_all) (B (r14 != 0)))) <| sM (B ((((r1 != 0) || (r12 != 0)) || (r13 != 0)) || (r14 != 0))) rfl ?_
 refine g_val (!((((r1 != 0) || (r12 != 0)) || (r13 != 0)) || (r14 != 0))) (gy_f rfl) (fun hg => x_mv (v := I r15) rfl) <| g_val (!((((r1 != 0) || (r12 != 0)) || (r13 != 0)) || (r14 != 0))) (gy_f rfl) (fun hg => x_cmp (kd := .i64) (a := r15) (b := 5) (r := r15 != 5) (gd_of (c := !((((r1 != 0) || (r12 != 0)) || (r13 != 0)) || (r14 != 0))) hg (I r15)) rfl rfl) <| s_val (x_por (b := ((((r1 != 0) || (r12 != 0)) || (r13 != 0)) || (r14 != 0))) (r := r15 != 5) rfl rfl (fun hb => gd_of (c := !((((r1 != 0) || (r12 != 0)) || (r13 != 0)) || (r14 != 0))) (by simp_all) (B (r15 != 5)))) <| sM (B (((((r1 != 0) || (r12 != 0)) || (r13 != 0)) || (r14 != 0)) || (r15 != 5))) rfl <| g_val (!(((((r1 != 0) || (r12 != 0)) || (r13 != 0)) || (r14 != 0)) || (r15 != 5))) (gy_f rfl) (fun hg => x_mv (v := B r0) rfl) <| g_val (!(((((r1 != 0) || (r12 != 0)) || (r13 != 0)) || (r14 != 0)) || (r15 != 5))) (gy_f rfl) (fun hg => x_not (b := r0) (gd_of (c := !(((((r1 != 0) || (r12 != 0)) || (r13 != 0)) || (r14 != 0)) || (r15 != 5))) hg (B r0))) <| s_val (x_por (b := (((((r1 != 0) || (r12 != 0)) || (r13 != 0)) || (r14 != 0)) || (r15 != 5))) (r := !r0) rfl rfl (fun hb => gd_of (c := !(((((r1 != 0) || (r12 != 0)) || (r13 != 0)) || (r14 != 0)) || (r15 != 5))) (by simp_all) (B (!r0)))) <| sM (B ((((((r1 != 0) || (r12 != 0)) || (r13 != 0)) || (r14 != 0)) || (r15 != 5)) || (!r0))) rfl <| g_val (!((((((r1 != 0) || (r12 != 0)) || (r13 != 0)) || (r14 != 0)) || (r15 != 5)) || (!r0))) (gy_f rfl) (fun hg => x_mv (v := B r02) rfl) <| s_val (x_por (b := ((((((r1 != 0) || (r12 != 0)) || (r13 != 0)) || (r14 != 0)) || (r15 != 5)) || (!r0))) (r := r02) rfl rfl (fun hb => gd_of (c := !((((((r1 != 0) || (r12 != 0)) || (r13 != 0)) || (r14 != 0)) || (r15 != 5)) || (!r0))) (by simp_all) (B r02))) <| sM (B (((((((r1 != 0) || (r12 != 0)) || (r13 != 0)) || (r14 != 0)) || (r15 != 5)) || (!r0)) || r02)) rfl <| g_val (!(((((((r1 != 0) || (r12 != 0)) || (r13 != 0)) || (r14 != 0)) || (r15 != 5)) || (!r0)) || r02)) (gy_f rfl) (fun hg => x_mv (v := u0_39) rfl) ?_
 refine t_gbs (α := Int) T34 (!(((((((r1 != 0) || (r12 != 0)) || (r13 != 0)) || (r14 != 0)) || (r15 != 5)) || (!r0)) || r02)) (gy_f rfl) [I 2, I 3] [(2 : Int), (3 : Int)] H (fun _ => rfl) (.cons rfl (Flat.rep_enc _ _) <| .cons rfl (Flat.rep_enc _ _) <| .nil) rfl rfl rfl ?_
 intro v134z Bs_52 w135z H hf136z
 obtain ⟨s5, hx137z, hM⟩ := M.e_bind hM
 replace hx137z := M.e_pure hx137z
 refine t_gcall (!(((((((r1 != 0) || (r12 != 0)) || (r13 != 0)) || (r14 != 0)) || (r15 != 5)) || (!r0)) || r02)) (gy_f rfl) cf25 (B s5) (fun _ => [u0_39, v134z]) (fun hg => lst2 (gd_of (c := !(((((((r1 != 0) || (r12 != 0)) || (r13 != 0)) || (r14 != 0)) || (r15 != 5)) || (!r0)) || r02)) hg (u0_39)) (gd_of (c := !(((((((r1 != 0) || (r12 != 0)) || (r13 != 0)) || (r14 != 0)) || (r15 != 5)) || (!r0)) || r02)) hg (v134z))) H (fun hg => Ret.mono (same_int _ ((ownSl (H.get (k := 10) rfl)).mono (ownLe _ (H.get (k := 10) rfl))) ((hf136z hg).mono (roLe _ (H.get (k := 0) rfl)))) fun v_ w_ ⟨hv_, hx_⟩ => ⟨hv_.trans (congrArg B hx137z), H.ext hx_⟩) ?_
 intro w138z H
 refine g_val (!(((((((r1 != 0) || (r12 != 0)) || (r13 != 0)) || (r14 != 0)) || (r15 != 5)) || (!r0)) || r02)) (gy_f rfl) (fun hg => x_not (b := s5) (gd_of (c := !(((((((r1 != 0) || (r12 != 0)) || (r13 != 0)) || (r14 != 0)) || (r15 != 5)) || (!r0)) || r02)) hg (B s5))) <| s_val (x_por (b := (((((((r1 != 0) || (r12 != 0)) || (r13 != 0)) || (r14 != 0)) || (r15 != 5)) || (!r0)) || r02)) (r := !s5) rfl rfl (fun hb => gd_of (c := !(((((((r1 != 0) || (r12 != 0)) || (r13 != 0)) || (r14 != 0)) || (r15 != 5)) || (!r0)) || r02)) (by simp_all) (B (!s5)))) <| sM (B ((((((((r1 != 0) || (r12 != 0)) || (r13 != 0)) || (r14 != 0)) || (r15 != 5)) || (!r0)) || r02) || (!s5))) rfl <| g_val (!((((((((r1 != 0) || (r12 != 0)) || (r13 != 0)) || (r14 != 0)) || (r15 != 5)) || (!r0)) || r02) || (!s5))) (gy_f rfl) (fun hg => x_mv (v := u0_44) rfl) <| g_val (!((((((((r1 != 0) || (r12 != 0)) || (r13 != 0)) || (r14 != 0)) || (r15 != 5)) || (!r0)) || r02) || (!s5))) (gy_f rfl) (fun hg => x_lenS T73.und (gd_of (c := !((((((((r1 != 0) || (r12 != 0)) || (r13 != 0)) || (r14 != 0)) || (r15 != 5)) || (!r0)) || r02) || (!s5))) hg (u0_44)) (rowSl rfl (H.get (k := 5) rfl) (roLe _ (H.get (k := 6) rfl)) hf122z)) <| g_val (!((((((((r1 != 0) || (r12 != 0)) || (r13 != 0)) || (r14 != 0)) || (r15 != 5)) || (!r0)) || r02) || (!s5))) (gy_f rfl) (fun hg => x_cmp (kd := .i64) (a := (r04.length : Int)) (b := 2) (r := (r04.length : Int) != 2) (gd_of (c := !((((((((r1 != 0) || (r12 != 0)) || (r13 != 0)) || (r14 != 0)) || (r15 != 5)) || (!r0)) || r02) || (!s5))) hg (I (r04.length : Int))) rfl rfl) <| s_val (x_por (b := ((((((((r1 != 0) || (r12 != 0)) || (r13 != 0)) || (r14 != 0)) || (r15 != 5)) || (!r0)) || r02) || (!s5))) (r := (r04.length : Int) != 2) rfl rfl (fun hb => gd_of (c := !((((((((r1 != 0) || (r12 != 0)) || (r13 != 0)) || (r14 != 0)) || (r15 != 5)) || (!r0)) || r02) || (!s5))) (by simp_all) (B ((r04.length : Int) != 2)))) <| s_nil ?_
 refine W.cond (((((((((r1 != 0) || (r12 != 0)) || (r13 != 0)) || (r14 != 0)) || (r15 != 5)) || (!r0)) || r02) || (!s5)) || ((r04.length : Int) != 2)) rfl (fun c140z => ?_) (fun c140z => ?_)
 ·replace hM := M.e_t hM c140z
  refine W.seq <| W.region rfl <| sA (B false) rfl <| s_nil ?_
  refine W.ret ?_
  have hr_ := M.e_pure hM
  exact ⟨_, resE_tmp rfl, ⟨false, hr_, rfl, (H.pick [] (by decide) rfl)⟩⟩
 replace hM := M.e_f hM c140z
 refine W.skip <| W.seq <| W.region rfl ?_
 obtain ⟨r142z, hx141z, hM⟩ := M.e_bind hM
 refine s_call cf79 [] rfl (nilometerlaw13_Six_ok hx141z _ (St.give (T := [cRo Bs_52, cOwn (α := Int) 3 u0_51 r05, cOwn (α := Int) 3 v128z ([(1 : Int)]), cOwn (α := Raw 2) 60 u0_47 rr1_48, cRo Bs2_49, cOwn (α := Raw 0) 34 u0_44 rr1_45, cRo Bs2_46, cOwn (α := Int) 3 v116z ([(1 : Int)]), cOwn (α := Raw 2) 60 u0_40 rr1_41, cRo Bs2_42, cOwn (α := Int) 3 u0_39 r03, cOwn (α := Int) 3 v105z ([(1 : Int)]), cOwn (α := Raw 2) 60 u0_35 rr1_36, cRo Bs2_37, cOwn (α := Int) 3 v94z ([(0 : Int), (2 : Int), (4 : Int)]), cOwn (α := Int) 3 v92z ([(0 : Int)]), cOwn (α := Raw 2) 60 u0_30 rr1_31, cRo Bs2_32, cOwn (α := Int) 3 v81z ([(0 : Int), (2 : Int), (4 : Int), (5 : Int)]), cOwn (α := Int) 3 v79z ([(0 : Int)]), cOwn (α := Raw 2) 60 u0_25 rr1_26, cRo Bs2_27, cRo Bs_24, cRo Bs_23, cRo Bs_22, cRo Bs_21, cRo Bs_20, cOwn (α := Int) 3 v45z ([(0 : Int)]), cOwn (α := Raw 2) 60 u0_16 rr1_17, cRo Bs2_18, cRo Bs_15, cOwn (α := Int) 3 v32z ([(1 : Int)]), cOwn (α := Raw 2) 60 u0_11 rr1_12, cRo Bs2_13, cRo Bs_10, cOwn (α := Int) 3 v19z ([(0 : Int)]), cOwn (α := Raw 2) 60 u0_6 rr1_7, cRo Bs2_8, cRo Bs_5, cOwn (α := Note) 30 v6z ([(⟨(0 : Int), (2 : Int), (7 : Int)⟩ : Note), (⟨(1 : Int), (0 : Int), (9 : Int)⟩ : Note)]), cOwn (α := Raw 2) 60 u0_1 rr1_2, cRo Bs2_3]) H rfl)) ?_
 rintro vq w143z ⟨r11, u0_53, rr1_54, Bs2_55, hr144z, hvq, H2_, hf145z⟩
 subst hr144z
 subst vq
 try dsimp only at hM
 replace H : St w w143z [cOwn (α := Raw 2) 60 u0_53 rr1_54, cRo Bs2_55, cRo Bs_52, cOwn (α := Int) 3 u0_51 r05, cOwn (α := Int) 3 v128z ([(1 : Int)]), cOwn (α := Raw 2) 60 u0_47 rr1_48, cRo Bs2_49, cOwn (α := Raw 0) 34 u0_44 rr1_45, cRo Bs2_46, cOwn (α := Int) 3 v116z ([(1 : Int)]), cOwn (α := Raw 2) 60 u0_40 rr1_41, cRo Bs2_42, cOwn (α := Int) 3 u0_39 r03, cOwn (α := Int) 3 v105z ([(1 : Int)]), cOwn (α := Raw 2) 60 u0_35 rr1_36, cRo Bs2_37, cOwn (α := Int) 3 v94z ([(0 : Int), (2 : Int), (4 : Int)]), cOwn (α := Int) 3 v92z ([(0 : Int)]), cOwn (α := Raw 2) 60 u0_30 rr1_31, cRo Bs2_32, cOwn (α := Int) 3 v81z ([(0 : Int), (2 : Int), (4 : Int), (5 : Int)]), cOwn (α := Int) 3 v79z ([(0 : Int)]), cOwn (α := Raw 2) 60 u0_25 rr1_26, cRo Bs2_27, cRo Bs_24, cRo Bs_23, cRo Bs_22, cRo Bs_21, cRo Bs_20, cOwn (α := Int) 3 v45z ([(0 : Int)]), cOwn (α := Raw 2) 60 u0_16 rr1_17, cRo Bs2_18, cRo Bs_15, cOwn (α := Int) 3 v32z ([(1 : Int)]), cOwn (α := Raw 2) 60 u0_11 rr1_12, cRo Bs2_13, cRo Bs_10, cOwn (α := Int) 3 v19z ([(0 : Int)]), cOwn (α := Raw 2) 60 u0_6 rr1_7, cRo Bs2_8, cRo Bs_5, cOwn (α := Note) 30 v6z ([(⟨(0 : Int), (2 : Int), (7 : Int)⟩ : Note), (⟨(1 : Int), (0 : Int), (9 : Int)⟩ : Note)]), cOwn (α := Raw 2) 60 u0_1 rr1_2, cRo Bs2_3] R := H.back H2_ rfl
 clear H2_
 refine s_val (x_bld (ps := [(0, I 0), (1, I 3), (2, I 8)]) (zs := [I 0, I 0, I 0]) (L' := [I 0, I 3, I 8]) rfl Try.underlying30 Al30 rfl (Bd30 Try.underlying30) (.cons (cs := [I 0]) rfl rfl rfl rfl rfl <| .cons (cs := [I 3]) rfl rfl rfl rfl rfl <| .cons (cs := [I 8]) rfl rfl rfl rfl rfl <| .nil)) <| s_val (x_bld (ps := [(0, I 0), (1, I 2), (2, I 7)]) (zs := [I 0, I 0, I 0]) (L' := [I 0, I 2, I 7]) rfl Try.underlying30 Al30 rfl (Bd30 Try.underlying30) (.cons (cs := [I 0]) rfl rfl rfl rfl rfl <| .cons (cs := [I 2]) rfl rfl rfl rfl rfl <| .cons (cs := [I 7]) rfl rfl rfl rfl rfl <| .nil)) <| s_val (x_bld (ps := [(0, I 1), (2, I 9)]) (zs := [I 0, I 0, I 0]) (L' := [I 1, I 0, I 9]) rfl Try.underlying30 Al30 rfl (Bd30 Try.underlying30) (.cons (cs := [I 1]) rfl rfl rfl rfl rfl <| .cons (cs := [I 9]) rfl rfl rfl rfl rfl <| .nil)) ?_
 refine t_bs (α := Note) T23 [.agg #[I 0, I 3, I 8], .agg #[I 0, I 2, I 7], .agg #[I 1, I 0, I 9]] [(⟨(0 : Int), (3 : Int), (8 : Int)⟩ : Note), (⟨(0 : Int), (2 : Int), (7 : Int)⟩ : Note), (⟨(1 : Int), (0 : Int), (9 : Int)⟩ : Note)] H rfl (.cons rfl (Flat.rep_enc _ (⟨(0 : Int), (3 : Int), (8 : Int)⟩ : Note)) <| .cons rfl (Flat.rep_enc _ (⟨(0 : Int), (2 : Int), (7 : Int)⟩ : Note)) <| .cons rfl (Flat.rep_enc _ (⟨(1 : Int), (0 : Int), (9 : Int)⟩ : Note)) <| .nil) rfl rfl rfl ?_
 intro v146z w147z H
 refine s_val (x_bld (ps := [(0, I 2), (1, I 26)]) (zs := [I 0, I 0]) (L' := [I 2, I 26]) rfl Try.underlying33 Al33 rfl (Bd33 Try.underlying33) (.cons (cs := [I 2]) rfl rfl rfl rfl rfl <| .cons (cs := [I 26]) rfl rfl rfl rfl rfl <| .nil)) <| s_val (x_bld (ps := [(0, I 3), (1, I 10)]) (zs := [I 0, I 0]) (L' := [I 3, I 10]) rfl Try.underlying33 Al33 rfl (Bd33 Try.underlying33) (.cons (cs := [I 3]) rfl rfl rfl rfl rfl <| .cons (cs := [I 10]) rfl rfl rfl rfl rfl <| .nil)) ?_
 refine t_bs (α := Pub) T24 [.agg #[I 2, I 26], .agg #[I 3, I 10]] [(⟨(2 : Int), (26 : Int)⟩ : Pub), (⟨(3 : Int), (10 : Int)⟩ : Pub)] H rfl (.cons rfl (Flat.rep_enc _ (⟨(2 : Int), (26 : Int)⟩ : Pub)) <| .cons rfl (Flat.rep_enc _ (⟨(3 : Int), (10 : Int)⟩ : Pub)) <| .nil) rfl rfl rfl ?_
 intro v148z w149z H
 obtain ⟨⟨l5, e5⟩, hx153z, hM⟩ := M.e_bind hM
 obtain ⟨hq154z, hq155z⟩ := Prod.mk.inj (M.e_pure hx153z)
 try dsimp only at hM
 refine s_call cf26 [u0_53, v146z, v148z] rfl (by have hc_ := (Withdrawn_any _ ((rowSl rfl (H.get (k := 2) rfl) (roLe _ (H.get (k := 3) rfl)) hf145z).mono (Cells.sup_le (ownLe _ (H.get (k := 2) rfl)) (roLe _ (H.get (k := 3) rfl)))) ((ownSl (H.get (k := 1) rfl)).mono (ownLe _ (H.get (k := 1) rfl))) ((ownSl (H.get (k := 0) rfl)).mono (ownLe _ (H.get (k := 0) rfl)))); rw [hq154z, hq155z] at hc_; exact hc_) ?_
 rintro _ w150z ⟨u151z, rfl, hs152z, hx_⟩
 obtain ⟨Bs_58, H, hs152z⟩ := H.fresh hx_ hs152z
 clear hx_
 have hl_hs152z := hs152z.len_le
 refine sM (.tuple #[u151z, I e5]) rfl <| s_val (x_ext (vs := [u151z, I e5]) (v := u151z) rfl rfl) <| s_val (x_ext (vs := [u151z, I e5]) (v := I e5) rfl rfl) <| sA u151z rfl <| sA (I e5) rfl <| s_nil <| W.seq <| W.region rfl <| sM (I e5) rfl <| sC e5 0 (e5 == 0) rfl rfl rfl <| sM (B (e5 == 0)) rfl <| g_val (e5 == 0) (gy_t rfl) (fun hg => x_mv (v := u151z) rfl) ?_
 refine t_gbs (α := Int) T34 (e5 == 0) (gy_t rfl) [I 0] [(0 : Int)] H (fun _ => rfl) (.cons rfl (Flat.rep_enc _ _) <| .nil) rfl rfl rfl ?_
 intro v156z Bs_59 w157z H hf158z
 obtain ⟨s6, hx159z, hM⟩ := M.e_bind hM
 replace hx159z := M.e_pure hx159z
 refine t_gcall (e5 == 0) (gy_t rfl) cf25 (B s6) (fun _ => [u151z, v156z]) (fun hg => lst2 (gd_of (c := e5 == 0) hg (u151z)) (gd_of (c := e5 == 0) hg (v156z))) H (fun hg => Ret.mono (same_int _ (hs152z.mono (roLe _ (H.get (k := 1) rfl))) ((hf158z hg).mono (roLe _ (H.get (k := 0) rfl)))) fun v_ w_ ⟨hv_, hx_⟩ => ⟨hv_.trans (congrArg B hx159z), H.ext hx_⟩) ?_
 intro w160z H
 refine s_val (x_pand (b := e5 == 0) (r := s6) rfl (fun hb => gd_of (c := e5 == 0) (by simp_all) (B s6)) rfl) <| sA (B ((e5 == 0) && s6)) rfl <| s_nil ?_
 refine W.ret ?_
 have hr_ := M.e_pure hM
 exact ⟨_, resE_tmp rfl, ⟨((e5 == 0) && s6), hr_, rfl, (H.pick [] (by decide) rfl)⟩⟩

end Go.Proofs.Ytndobgodeicloaa
end
section
set_option maxRecDepth 100000
set_option maxHeartbeats 16000000
namespace Go.Proofs.Ytndobgodeicloaa
open Go Go.Nm
def m_nilometerkit_New (bytes : List UInt8) : M (Int × Int) :=
  M.pure (0, 0)
theorem nilometerkit_New_ok {R : List Chunk} {C_bytes : Cells} {v_bytes : Value} (bytes : List UInt8) (hC_bytes : Reads R C_bytes) (hs_bytes : Sl C_bytes v_bytes bytes) {r : (Int × Int)} (hM : (m_nilometerkit_New bytes).Ends r) (w : World) (H : St w w [] R) : Ret Try.prog 40 #[v_bytes] w fun v w' => ∃ (y0 : Int) (y1 : Int) (nb0 : Nat), (y0, y1) = r ∧ v = Pz nb0 ∧ St w w' [cBlk nb0 [v_bytes, I y0, I y1] 158] R := by
 refine ret_of_W Try.func40 rfl rfl rfl ?_
 refine W.seq <| W.region rfl <| sA (.pointer none) rfl <| s_nil <| W.seq <| W.region rfl <| sM v_bytes rfl <| s_val (x_bld (ps := [(0, v_bytes)]) (zs := [.slice none 0 0, I 0, I 0]) (L' := [v_bytes, I 0, I 0]) rfl Try.underlying158 Al158 rfl (Bd158 Try.underlying158) (.cons (cs := [v_bytes]) (Sl.cells hs_bytes) rfl rfl rfl rfl <| .nil)) ?_
 refine t_box (v := .agg #[v_bytes, I 0, I 0]) (cs := [v_bytes, I 0, I 0]) H rfl rfl ?_
 intro b_1 w1z H
 refine sA (Pz b_1) rfl <| s_nil ?_
 refine W.ret ?_
 have hr_ := M.e_pure hM
 exact ⟨_, resE_tmp rfl, ⟨0, 0, b_1, hr_, rfl, H⟩⟩

def m_nilometerkit_Stream_Next (s_bytes : List UInt8) (s_used : Int) (s_mix : Int) (n : Int) : M (Int × Int × Int) :=
  bif ((decide (n < 2)) || ((s_bytes.length : Int) == 0)) then (
  M.pure (0, s_used, s_mix))
  else (
  M.grd (decide ((0 : Int) ≤ s_used) && decide ((0 : Int) < (s_bytes.length : Int))) <|
  M.grd (decide ((0 : Int) ≤ (s_used % (s_bytes.length : Int))) && decide ((s_used % (s_bytes.length : Int)) < (s_bytes.length : Int))) <|
  M.grd (decide ((0 : Int) ≤ ((s_bytes.getD (Int.toNat (s_used % (s_bytes.length : Int))) 0).toNat : Int)) && decide (((s_bytes.getD (Int.toNat (s_used % (s_bytes.length : Int))) 0).toNat : Int) < (256 : Int))) <|
  bif decide ((s_bytes.length : Int) ≤ s_used) then (
  M.grd (decide ((-9223372036854775808 : Int) ≤ (11 * s_mix)) && decide ((11 * s_mix) ≤ (9223372036854775807 : Int))) <|
  M.grd (decide (0 ≤ s_used) && decide (s_used ≤ (9223372036854775807 : Int)) && decide ((0 : Int) < (s_bytes.length : Int))) <|
  M.grd (decide ((-9223372036854775808 : Int) ≤ ((11 * s_mix) + (s_used / (s_bytes.length : Int)))) && decide (((11 * s_mix) + (s_used / (s_bytes.length : Int))) ≤ (9223372036854775807 : Int))) <|
  M.grd (decide ((-9223372036854775808 : Int) ≤ (((s_bytes.getD (Int.toNat (s_used % (s_bytes.length : Int))) 0).toNat : Int) + ((11 * s_mix) + (s_used / (s_bytes.length : Int))))) && decide ((((s_bytes.getD (Int.toNat (s_used % (s_bytes.length : Int))) 0).toNat : Int) + ((11 * s_mix) + (s_used / (s_bytes.length : Int)))) ≤ (9223372036854775807 : Int))) <|
  M.grd (decide ((-9223372036854775808 : Int) ≤ (5 * s_mix)) && decide ((5 * s_mix) ≤ (9223372036854775807 : Int))) <|
  M.grd (decide ((-9223372036854775808 : Int) ≤ ((5 * s_mix) + (((s_bytes.getD (Int.toNat (s_used % (s_bytes.length : Int))) 0).toNat : Int) + ((11 * s_mix) + (s_used / (s_bytes.length : Int)))))) && decide (((5 * s_mix) + (((s_bytes.getD (Int.toNat (s_used % (s_bytes.length : Int))) 0).toNat : Int) + ((11 * s_mix) + (s_used / (s_bytes.length : Int))))) ≤ (9223372036854775807 : Int))) <|
  M.grd (decide ((-9223372036854775808 : Int) ≤ (((5 * s_mix) + (((s_bytes.getD (Int.toNat (s_used % (s_bytes.length : Int))) 0).toNat : Int) + ((11 * s_mix) + (s_used / (s_bytes.length : Int))))) + 1)) && decide ((((5 * s_mix) + (((s_bytes.getD (Int.toNat (s_used % (s_bytes.length : Int))) 0).toNat : Int) + ((11 * s_mix) + (s_used / (s_bytes.length : Int))))) + 1) ≤ (9223372036854775807 : Int))) <|
  M.grd (decide ((0 : Int) ≤ (((5 * s_mix) + (((s_bytes.getD (Int.toNat (s_used % (s_bytes.length : Int))) 0).toNat : Int) + ((11 * s_mix) + (s_used / (s_bytes.length : Int))))) + 1)) && decide ((0 : Int) < 251)) <|
  M.grd (decide ((-9223372036854775808 : Int) ≤ (s_used + 1)) && decide ((s_used + 1) ≤ (9223372036854775807 : Int))) <|
  bif decide (256 < n) then (
  M.grd (decide ((-9223372036854775808 : Int) ≤ (256 * (((s_bytes.getD (Int.toNat (s_used % (s_bytes.length : Int))) 0).toNat : Int) + ((11 * s_mix) + (s_used / (s_bytes.length : Int)))))) && decide ((256 * (((s_bytes.getD (Int.toNat (s_used % (s_bytes.length : Int))) 0).toNat : Int) + ((11 * s_mix) + (s_used / (s_bytes.length : Int))))) ≤ (9223372036854775807 : Int))) <|
  M.grd (decide ((-9223372036854775808 : Int) ≤ ((256 * (((s_bytes.getD (Int.toNat (s_used % (s_bytes.length : Int))) 0).toNat : Int) + ((11 * s_mix) + (s_used / (s_bytes.length : Int))))) + ((((5 * s_mix) + (((s_bytes.getD (Int.toNat (s_used % (s_bytes.length : Int))) 0).toNat : Int) + ((11 * s_mix) + (s_used / (s_bytes.length : Int))))) + 1) % 251))) && decide (((256 * (((s_bytes.getD (Int.toNat (s_used % (s_bytes.length : Int))) 0).toNat : Int) + ((11 * s_mix) + (s_used / (s_bytes.length : Int))))) + ((((5 * s_mix) + (((s_bytes.getD (Int.toNat (s_used % (s_bytes.length : Int))) 0).toNat : Int) + ((11 * s_mix) + (s_used / (s_bytes.length : Int))))) + 1) % 251)) ≤ (9223372036854775807 : Int))) <|
  M.grd (decide ((0 : Int) ≤ ((256 * (((s_bytes.getD (Int.toNat (s_used % (s_bytes.length : Int))) 0).toNat : Int) + ((11 * s_mix) + (s_used / (s_bytes.length : Int))))) + ((((5 * s_mix) + (((s_bytes.getD (Int.toNat (s_used % (s_bytes.length : Int))) 0).toNat : Int) + ((11 * s_mix) + (s_used / (s_bytes.length : Int))))) + 1) % 251))) && decide ((0 : Int) < n)) <|
  M.pure ((((256 * (((s_bytes.getD (Int.toNat (s_used % (s_bytes.length : Int))) 0).toNat : Int) + ((11 * s_mix) + (s_used / (s_bytes.length : Int))))) + ((((5 * s_mix) + (((s_bytes.getD (Int.toNat (s_used % (s_bytes.length : Int))) 0).toNat : Int) + ((11 * s_mix) + (s_used / (s_bytes.length : Int))))) + 1) % 251)) % n), (s_used + 1), ((((5 * s_mix) + (((s_bytes.getD (Int.toNat (s_used % (s_bytes.length : Int))) 0).toNat : Int) + ((11 * s_mix) + (s_used / (s_bytes.length : Int))))) + 1) % 251)))
  else (
  M.grd (decide ((0 : Int) ≤ (((s_bytes.getD (Int.toNat (s_used % (s_bytes.length : Int))) 0).toNat : Int) + ((11 * s_mix) + (s_used / (s_bytes.length : Int))))) && decide ((0 : Int) < n)) <|
  M.pure (((((s_bytes.getD (Int.toNat (s_used % (s_bytes.length : Int))) 0).toNat : Int) + ((11 * s_mix) + (s_used / (s_bytes.length : Int)))) % n), (s_used + 1), ((((5 * s_mix) + (((s_bytes.getD (Int.toNat (s_used % (s_bytes.length : Int))) 0).toNat : Int) + ((11 * s_mix) + (s_used / (s_bytes.length : Int))))) + 1) % 251))))
  else (
  M.grd (decide ((-9223372036854775808 : Int) ≤ (5 * s_mix)) && decide ((5 * s_mix) ≤ (9223372036854775807 : Int))) <|
  M.grd (decide ((-9223372036854775808 : Int) ≤ ((5 * s_mix) + ((s_bytes.getD (Int.toNat (s_used % (s_bytes.length : Int))) 0).toNat : Int))) && decide (((5 * s_mix) + ((s_bytes.getD (Int.toNat (s_used % (s_bytes.length : Int))) 0).toNat : Int)) ≤ (9223372036854775807 : Int))) <|
  M.grd (decide ((-9223372036854775808 : Int) ≤ (((5 * s_mix) + ((s_bytes.getD (Int.toNat (s_used % (s_bytes.length : Int))) 0).toNat : Int)) + 1)) && decide ((((5 * s_mix) + ((s_bytes.getD (Int.toNat (s_used % (s_bytes.length : Int))) 0).toNat : Int)) + 1) ≤ (9223372036854775807 : Int))) <|
  M.grd (decide ((0 : Int) ≤ (((5 * s_mix) + ((s_bytes.getD (Int.toNat (s_used % (s_bytes.length : Int))) 0).toNat : Int)) + 1)) && decide ((0 : Int) < 251)) <|
  M.grd (decide ((-9223372036854775808 : Int) ≤ (s_used + 1)) && decide ((s_used + 1) ≤ (9223372036854775807 : Int))) <|
  bif decide (256 < n) then (
  M.grd (decide ((-9223372036854775808 : Int) ≤ (256 * ((s_bytes.getD (Int.toNat (s_used % (s_bytes.length : Int))) 0).toNat : Int))) && decide ((256 * ((s_bytes.getD (Int.toNat (s_used % (s_bytes.length : Int))) 0).toNat : Int)) ≤ (9223372036854775807 : Int))) <|
  M.grd (decide ((-9223372036854775808 : Int) ≤ ((256 * ((s_bytes.getD (Int.toNat (s_used % (s_bytes.length : Int))) 0).toNat : Int)) + ((((5 * s_mix) + ((s_bytes.getD (Int.toNat (s_used % (s_bytes.length : Int))) 0).toNat : Int)) + 1) % 251))) && decide (((256 * ((s_bytes.getD (Int.toNat (s_used % (s_bytes.length : Int))) 0).toNat : Int)) + ((((5 * s_mix) + ((s_bytes.getD (Int.toNat (s_used % (s_bytes.length : Int))) 0).toNat : Int)) + 1) % 251)) ≤ (9223372036854775807 : Int))) <|
  M.grd (decide ((0 : Int) ≤ ((256 * ((s_bytes.getD (Int.toNat (s_used % (s_bytes.length : Int))) 0).toNat : Int)) + ((((5 * s_mix) + ((s_bytes.getD (Int.toNat (s_used % (s_bytes.length : Int))) 0).toNat : Int)) + 1) % 251))) && decide ((0 : Int) < n)) <|
  M.pure ((((256 * ((s_bytes.getD (Int.toNat (s_used % (s_bytes.length : Int))) 0).toNat : Int)) + ((((5 * s_mix) + ((s_bytes.getD (Int.toNat (s_used % (s_bytes.length : Int))) 0).toNat : Int)) + 1) % 251)) % n), (s_used + 1), ((((5 * s_mix) + ((s_bytes.getD (Int.toNat (s_used % (s_bytes.length : Int))) 0).toNat : Int)) + 1) % 251)))
  else (
  M.grd (decide ((0 : Int) ≤ ((s_bytes.getD (Int.toNat (s_used % (s_bytes.length : Int))) 0).toNat : Int)) && decide ((0 : Int) < n)) <|
  M.pure ((((s_bytes.getD (Int.toNat (s_used % (s_bytes.length : Int))) 0).toNat : Int) % n), (s_used + 1), ((((5 * s_mix) + ((s_bytes.getD (Int.toNat (s_used % (s_bytes.length : Int))) 0).toNat : Int)) + 1) % 251)))))
theorem nilometerkit_Stream_Next_ok {R : List Chunk} {b_s : Nat} {C_s_bytes : Cells} {v_s_bytes : Value} (s_bytes : List UInt8) (s_used : Int) (s_mix : Int) (n : Int) (hC_s_bytes : Reads R C_s_bytes) (hs_s_bytes : Sl C_s_bytes v_s_bytes s_bytes) {r : (Int × Int × Int)} (hM : (m_nilometerkit_Stream_Next s_bytes s_used s_mix n).Ends r) (w : World) (H : St w w [cBlk b_s [v_s_bytes, I s_used, I s_mix] 158] R) : Ret Try.prog 44 #[Pz b_s, I n] w fun v w' => ∃ (y0 : Int) (y1 : Int) (y2 : Int), (y0, y1, y2) = r ∧ v = I y0 ∧ St w w' [cBlk b_s [v_s_bytes, I y1, I y2] 158] R := by
 refine ret_of_W Try.func44 rfl rfl rfl ?_
 refine W.seq <| W.region rfl <| sA (I 0) rfl <| s_nil <| W.seq <| W.seq <| W.region rfl <| sM (I n) rfl <| sC n 2 (decide (n < 2)) rfl rfl rfl <| sM (B (decide (n < 2))) rfl <| g_val (!(decide (n < 2))) (gy_f rfl) (fun hg => x_mv (v := Pz b_s) rfl) <| g_val (!(decide (n < 2))) (gy_f rfl) (fun hg => x_nc (a := ⟨b_s, 0, none⟩) (gd_of (c := !(decide (n < 2))) hg (Pz b_s))) ?_
 refine g_val (!(decide (n < 2))) (gy_f rfl) (fun hg => x_fa (a := Pz b_s) (v := Pz b_s) (gd_of (c := !(decide (n < 2))) hg (Pz b_s)) (fa_blk (o := 0) Fd158_0 Sz62)) <| g_val (!(decide (n < 2))) (gy_f rfl) (fun hg => x_ld (p := Pz b_s) (v := v_s_bytes) (gd_of (c := !(decide (n < 2))) hg (Pz b_s)) (ldb_sc Sc62 (H.blk (k := 0) rfl) rfl)) <| g_val (!(decide (n < 2))) (gy_f rfl) (fun hg => x_lenS T62.und (gd_of (c := !(decide (n < 2))) hg (v_s_bytes)) hs_s_bytes) <| g_val (!(decide (n < 2))) (gy_f rfl) (fun hg => x_cmp (kd := .i64) (a := (s_bytes.length : Int)) (b := 0) (r := (s_bytes.length : Int) == 0) (gd_of (c := !(decide (n < 2))) hg (I (s_bytes.length : Int))) rfl rfl) <| s_val (x_por (b := decide (n < 2)) (r := (s_bytes.length : Int) == 0) rfl rfl (fun hb => gd_of (c := !(decide (n < 2))) (by simp_all) (B ((s_bytes.length : Int) == 0)))) <| s_nil ?_
 refine W.cond ((decide (n < 2)) || ((s_bytes.length : Int) == 0)) rfl (fun c2z => ?_) (fun c2z => ?_)
 ·replace hM := M.e_t hM c2z
  refine W.seq <| W.region rfl <| sA (I 0) rfl <| s_nil ?_
  refine W.ret ?_
  have hr_ := M.e_pure hM
  exact ⟨_, resE_tmp rfl, ⟨0, s_used, s_mix, hr_, rfl, H⟩⟩
 replace hM := M.e_f hM c2z
 refine W.skip <| W.seq ?_
 refine W.draw (fun W => St w W [cBlk b_s [v_s_bytes, I s_used, I s_mix] 158] R) [(0, true), (1, true), (2, true), (3, true), (4, true), (5, true), (6, true), (7, true), (8, true), (9, true), (10, true), (11, true), (12, true), (13, true), (14, true), (15, true), (16, true), (17, true)] mixed (by decide +kernel) rfl ?_
 intro w3z hx_
 replace H : St w w3z [cBlk b_s [v_s_bytes, I s_used, I s_mix] 158] R := H.ext hx_
 clear hx_
 refine ⟨(H.pick [0] (by decide) rfl), ?_⟩
 refine d_q rfl (fun w' H => x_mv (v := Pz b_s) rfl) ?_
 refine d_q rfl (fun w' H => x_nc (a := ⟨b_s, 0, none⟩) rfl) ?_
 refine d_q rfl (fun w' H => x_fa (a := Pz b_s) (v := Pz b_s) rfl (fa_blk (o := 0) Fd158_0 Sz62)) ?_
 refine d_q rfl (fun w' H => x_ld (p := Pz b_s) (v := v_s_bytes) rfl (ldb_sc Sc62 (H.blk (k := 0) rfl) rfl)) ?_
 refine d_q rfl (fun w' H => x_mv (v := Pz b_s) rfl) ?_
 refine d_q rfl (fun w' H => x_nc (a := ⟨b_s, 0, none⟩) rfl) ?_
 refine d_q rfl (fun w' H => x_fa (a := Pz b_s) (v := Oz b_s 1) rfl (fa_blk (o := 0) Fd158_1 Sz3)) ?_
 refine d_q rfl (fun w' H => x_ld (p := Oz b_s 1) (v := I s_used) rfl (ldb_sc Sc3 (H.blk (k := 0) rfl) rfl)) ?_
 refine d_q rfl (fun w' H => x_mv (v := Pz b_s) rfl) ?_
 refine d_q rfl (fun w' H => x_nc (a := ⟨b_s, 0, none⟩) rfl) ?_
 refine d_q rfl (fun w' H => x_fa (a := Pz b_s) (v := Pz b_s) rfl (fa_blk (o := 0) Fd158_0 Sz62)) ?_
 refine d_q rfl (fun w' H => x_ld (p := Pz b_s) (v := v_s_bytes) rfl (ldb_sc Sc62 (H.blk (k := 0) rfl) rfl)) ?_
 have hl4z := (hs_s_bytes).len_le
 refine d_q rfl (fun w' H => x_lenS T62.und rfl hs_s_bytes) ?_
 obtain ⟨sd5z, hM⟩ := M.e_grd hM
 simp only [Bool.and_eq_true, decide_eq_true_eq] at sd5z
 refine d_q rfl (fun w' H => x_rem' (a := s_used) (b := (s_bytes.length : Int)) rfl rfl (by omega)) ?_
 obtain ⟨sd6z, hM⟩ := M.e_grd hM
 simp only [Bool.and_eq_true, decide_eq_true_eq] at sd6z
 refine d_q rfl (fun w' H => x_ix (a := v_s_bytes) (b := I (s_used % (s_bytes.length : Int))) (v := vat v_s_bytes 1 (Int.toNat (s_used % (s_bytes.length : Int)))) rfl rfl (Sl.ix (α := UInt8) T62.und T62.size hs_s_bytes (by omega) (by omega))) ?_
 refine d_q rfl (fun w' H => x_ld (p := vat v_s_bytes 1 (Int.toNat (s_used % (s_bytes.length : Int)))) (v := .int .u8 (((s_bytes.getD (Int.toNat (s_used % (s_bytes.length : Int))) 0).toNat : Int))) rfl (ld_sc Sc5 (At.mono (UInt8_at hs_s_bytes (i := s_used % (s_bytes.length : Int)) (by omega) (by omega)) (hC_s_bytes.at H)))) ?_
 obtain ⟨sd7z, hM⟩ := M.e_grd hM
 simp only [Bool.and_eq_true, decide_eq_true_eq] at sd7z
 refine d_q rfl (fun w' H => x_conv64 (kd := .u8) (a := ((s_bytes.getD (Int.toNat (s_used % (s_bytes.length : Int))) 0).toNat : Int)) Try.underlying5 Try.underlying3 rfl (by omega)) ?_
 refine d_q rfl (fun w' H => x_as (v := I ((s_bytes.getD (Int.toNat (s_used % (s_bytes.length : Int))) 0).toNat : Int)) rfl) ?_
 refine d_nil ?_
 refine W.seq <| W.seq ?_
 refine W.draw (fun W => St w W [cBlk b_s [v_s_bytes, I s_used, I s_mix] 158] R) [(0, true), (1, true), (2, true), (3, true), (4, true), (5, true), (6, true), (7, true), (8, true), (9, true)] mixed (by decide +kernel) rfl ?_
 intro w8z hx_
 replace H : St w w8z [cBlk b_s [v_s_bytes, I s_used, I s_mix] 158] R := H.ext hx_
 clear hx_
 refine ⟨(H.pick [0] (by decide) rfl), ?_⟩
 refine d_q rfl (fun w' H => x_mv (v := Pz b_s) rfl) ?_
 refine d_q rfl (fun w' H => x_nc (a := ⟨b_s, 0, none⟩) rfl) ?_
 refine d_q rfl (fun w' H => x_fa (a := Pz b_s) (v := Oz b_s 1) rfl (fa_blk (o := 0) Fd158_1 Sz3)) ?_
 refine d_q rfl (fun w' H => x_ld (p := Oz b_s 1) (v := I s_used) rfl (ldb_sc Sc3 (H.blk (k := 0) rfl) rfl)) ?_
 refine d_q rfl (fun w' H => x_mv (v := Pz b_s) rfl) ?_
 refine d_q rfl (fun w' H => x_nc (a := ⟨b_s, 0, none⟩) rfl) ?_
 refine d_q rfl (fun w' H => x_fa (a := Pz b_s) (v := Pz b_s) rfl (fa_blk (o := 0) Fd158_0 Sz62)) ?_
 refine d_q rfl (fun w' H => x_ld (p := Pz b_s) (v := v_s_bytes) rfl (ldb_sc Sc62 (H.blk (k := 0) rfl) rfl)) ?_
 have hl9z := (hs_s_bytes).len_le
 refine d_q rfl (fun w' H => x_lenS T62.und rfl hs_s_bytes) ?_
 refine d_q rfl (fun w' H => x_cmp (kd := .i64) (a := s_used) (b := (s_bytes.length : Int)) (r := decide ((s_bytes.length : Int) ≤ s_used)) rfl rfl rfl) ?_
 refine d_nil ?_
 refine W.cond (decide ((s_bytes.length : Int) ≤ s_used)) rfl (fun c10z => ?_) (fun c10z => ?_)
 ·replace hM := M.e_t hM c10z
  simp only [qz1, qz2, qz3, qz4, qz5, qz6, ne_eq, qz7] at c10z
  refine W.draw (fun W => St w W [cBlk b_s [v_s_bytes, I s_used, I s_mix] 158] R) [(0, true), (1, true), (2, true), (3, true), (4, true), (5, true), (6, true), (7, true), (8, true), (9, true), (10, true), (11, true), (12, true), (13, true), (14, true), (15, true), (16, true), (17, true), (18, true)] mixed (by decide +kernel) rfl ?_
  intro w11z hx_
  replace H : St w w11z [cBlk b_s [v_s_bytes, I s_used, I s_mix] 158] R := H.ext hx_
  clear hx_
  refine ⟨(H.pick [0] (by decide) rfl), ?_⟩
  refine d_q rfl (fun w' H => x_mv (v := I ((s_bytes.getD (Int.toNat (s_used % (s_bytes.length : Int))) 0).toNat : Int)) rfl) ?_
  refine d_q rfl (fun w' H => x_mv (v := Pz b_s) rfl) ?_
  refine d_q rfl (fun w' H => x_nc (a := ⟨b_s, 0, none⟩) rfl) ?_
  refine d_q rfl (fun w' H => x_fa (a := Pz b_s) (v := Oz b_s 2) rfl (fa_blk (o := 0) Fd158_2 Sz3)) ?_
  refine d_q rfl (fun w' H => x_ld (p := Oz b_s 2) (v := I s_mix) rfl (ldb_sc Sc3 (H.blk (k := 0) rfl) rfl)) ?_
  obtain ⟨sd12z, hM⟩ := M.e_grd hM
  simp only [Bool.and_eq_true, decide_eq_true_eq] at sd12z
  refine d_q rfl (fun w' H => x_ari (a := 11) (b := s_mix) (r := 11 * s_mix) rfl rfl rfl (by omega)) ?_
  refine d_q rfl (fun w' H => x_mv (v := Pz b_s) rfl) ?_
  refine d_q rfl (fun w' H => x_nc (a := ⟨b_s, 0, none⟩) rfl) ?_
  refine d_q rfl (fun w' H => x_fa (a := Pz b_s) (v := Oz b_s 1) rfl (fa_blk (o := 0) Fd158_1 Sz3)) ?_
  refine d_q rfl (fun w' H => x_ld (p := Oz b_s 1) (v := I s_used) rfl (ldb_sc Sc3 (H.blk (k := 0) rfl) rfl)) ?_
  refine d_q rfl (fun w' H => x_mv (v := Pz b_s) rfl) ?_
  refine d_q rfl (fun w' H => x_nc (a := ⟨b_s, 0, none⟩) rfl) ?_
  refine d_q rfl (fun w' H => x_fa (a := Pz b_s) (v := Pz b_s) rfl (fa_blk (o := 0) Fd158_0 Sz62)) ?_
  refine d_q rfl (fun w' H => x_ld (p := Pz b_s) (v := v_s_bytes) rfl (ldb_sc Sc62 (H.blk (k := 0) rfl) rfl)) ?_
  have hl13z := (hs_s_bytes).len_le
  refine d_q rfl (fun w' H => x_lenS T62.und rfl hs_s_bytes) ?_
  obtain ⟨sd14z, hM⟩ := M.e_grd hM
  simp only [Bool.and_eq_true, decide_eq_true_eq] at sd14z
  refine d_q rfl (fun w' H => x_quo (a := s_used) (b := (s_bytes.length : Int)) rfl rfl (by omega)) ?_
  obtain ⟨sd15z, hM⟩ := M.e_grd hM
  simp only [Bool.and_eq_true, decide_eq_true_eq] at sd15z
  refine d_q rfl (fun w' H => x_ari (a := 11 * s_mix) (b := s_used / (s_bytes.length : Int)) (r := (11 * s_mix) + (s_used / (s_bytes.length : Int))) rfl rfl rfl (by omega)) ?_
  obtain ⟨sd16z, hM⟩ := M.e_grd hM
  simp only [Bool.and_eq_true, decide_eq_true_eq] at sd16z
  refine d_q rfl (fun w' H => x_ari (a := ((s_bytes.getD (Int.toNat (s_used % (s_bytes.length : Int))) 0).toNat : Int)) (b := (11 * s_mix) + (s_used / (s_bytes.length : Int))) (r := ((s_bytes.getD (Int.toNat (s_used % (s_bytes.length : Int))) 0).toNat : Int) + ((11 * s_mix) + (s_used / (s_bytes.length : Int)))) rfl rfl rfl (by omega)) ?_
  refine d_q rfl (fun w' H => x_as (v := I (((s_bytes.getD (Int.toNat (s_used % (s_bytes.length : Int))) 0).toNat : Int) + ((11 * s_mix) + (s_used / (s_bytes.length : Int))))) rfl) ?_
  refine d_nil ?_
  refine W.seq <| W.region rfl <| sM (Pz b_s) rfl <| sM (Pz b_s) rfl <| s_val (x_nc (a := ⟨b_s, 0, none⟩) rfl) <| s_val (x_fa (a := Pz b_s) (v := Oz b_s 2) rfl (fa_blk (o := 0) Fd158_2 Sz3)) <| s_val (x_ld (p := Oz b_s 2) (v := I s_mix) rfl (ldb_sc Sc3 (H.blk (k := 0) rfl) rfl)) ?_
  obtain ⟨sd17z, hM⟩ := M.e_grd hM
  simp only [Bool.and_eq_true, decide_eq_true_eq] at sd17z
  refine s_val (x_ari (a := 5) (b := s_mix) (r := 5 * s_mix) rfl rfl rfl (by omega)) <| sM (I (((s_bytes.getD (Int.toNat (s_used % (s_bytes.length : Int))) 0).toNat : Int) + ((11 * s_mix) + (s_used / (s_bytes.length : Int))))) rfl ?_
  obtain ⟨sd18z, hM⟩ := M.e_grd hM
  simp only [Bool.and_eq_true, decide_eq_true_eq] at sd18z
  refine s_val (x_ari (a := 5 * s_mix) (b := ((s_bytes.getD (Int.toNat (s_used % (s_bytes.length : Int))) 0).toNat : Int) + ((11 * s_mix) + (s_used / (s_bytes.length : Int)))) (r := (5 * s_mix) + (((s_bytes.getD (Int.toNat (s_used % (s_bytes.length : Int))) 0).toNat : Int) + ((11 * s_mix) + (s_used / (s_bytes.length : Int))))) rfl rfl rfl (by omega)) ?_
  obtain ⟨sd19z, hM⟩ := M.e_grd hM
  simp only [Bool.and_eq_true, decide_eq_true_eq] at sd19z
  refine s_val (x_ari (a := (5 * s_mix) + (((s_bytes.getD (Int.toNat (s_used % (s_bytes.length : Int))) 0).toNat : Int) + ((11 * s_mix) + (s_used / (s_bytes.length : Int))))) (b := 1) (r := ((5 * s_mix) + (((s_bytes.getD (Int.toNat (s_used % (s_bytes.length : Int))) 0).toNat : Int) + ((11 * s_mix) + (s_used / (s_bytes.length : Int))))) + 1) rfl rfl rfl (by omega)) ?_
  obtain ⟨sd20z, hM⟩ := M.e_grd hM
  simp only [Bool.and_eq_true, decide_eq_true_eq] at sd20z
  refine s_val (x_rem' (a := ((5 * s_mix) + (((s_bytes.getD (Int.toNat (s_used % (s_bytes.length : Int))) 0).toNat : Int) + ((11 * s_mix) + (s_used / (s_bytes.length : Int))))) + 1) (b := 251) rfl rfl (by omega)) <| s_val (x_nc (a := ⟨b_s, 0, none⟩) rfl) <| s_val (x_fa (a := Pz b_s) (v := Oz b_s 2) rfl (fa_blk (o := 0) Fd158_2 Sz3)) ?_
  refine t_st (k := 0) (b := b_s) (off := 2) (cs := [v_s_bytes, I s_used, I s_mix]) (vs := [I ((((5 * s_mix) + (((s_bytes.getD (Int.toNat (s_used % (s_bytes.length : Int))) 0).toNat : Int) + ((11 * s_mix) + (s_used / (s_bytes.length : Int))))) + 1) % 251)]) (cs' := [v_s_bytes, I s_used, I ((((5 * s_mix) + (((s_bytes.getD (Int.toNat (s_used % (s_bytes.length : Int))) 0).toNat : Int) + ((11 * s_mix) + (s_used / (s_bytes.length : Int))))) + 1) % 251)]) (v := I ((((5 * s_mix) + (((s_bytes.getD (Int.toNat (s_used % (s_bytes.length : Int))) 0).toNat : Int) + ((11 * s_mix) + (s_used / (s_bytes.length : Int))))) + 1) % 251)) (L' := [cBlk b_s [v_s_bytes, I s_used, I ((((5 * s_mix) + (((s_bytes.getD (Int.toNat (s_used % (s_bytes.length : Int))) 0).toNat : Int) + ((11 * s_mix) + (s_used / (s_bytes.length : Int))))) + 1) % 251)] 158]) H rfl rfl rfl Sz3 rfl rfl rfl rfl rfl rfl ?_
  intro w21z H
  refine s_nil <| W.seq <| W.region rfl <| sM (Pz b_s) rfl <| s_val (x_nc (a := ⟨b_s, 0, none⟩) rfl) <| s_val (x_fa (a := Pz b_s) (v := Oz b_s 1) rfl (fa_blk (o := 0) Fd158_1 Sz3)) <| s_val (x_ld (p := Oz b_s 1) (v := I s_used) rfl (ldb_sc Sc3 (H.blk (k := 0) rfl) rfl)) ?_
  obtain ⟨sd22z, hM⟩ := M.e_grd hM
  simp only [Bool.and_eq_true, decide_eq_true_eq] at sd22z
  refine s_val (x_ari (a := s_used) (b := 1) (r := s_used + 1) rfl rfl rfl (by omega)) <| s_val (x_nc (a := ⟨b_s, 0, none⟩) rfl) <| s_val (x_fa (a := Pz b_s) (v := Oz b_s 1) rfl (fa_blk (o := 0) Fd158_1 Sz3)) ?_
  refine t_st (k := 0) (b := b_s) (off := 1) (cs := [v_s_bytes, I s_used, I ((((5 * s_mix) + (((s_bytes.getD (Int.toNat (s_used % (s_bytes.length : Int))) 0).toNat : Int) + ((11 * s_mix) + (s_used / (s_bytes.length : Int))))) + 1) % 251)]) (vs := [I (s_used + 1)]) (cs' := [v_s_bytes, I (s_used + 1), I ((((5 * s_mix) + (((s_bytes.getD (Int.toNat (s_used % (s_bytes.length : Int))) 0).toNat : Int) + ((11 * s_mix) + (s_used / (s_bytes.length : Int))))) + 1) % 251)]) (v := I (s_used + 1)) (L' := [cBlk b_s [v_s_bytes, I (s_used + 1), I ((((5 * s_mix) + (((s_bytes.getD (Int.toNat (s_used % (s_bytes.length : Int))) 0).toNat : Int) + ((11 * s_mix) + (s_used / (s_bytes.length : Int))))) + 1) % 251)] 158]) H rfl rfl rfl Sz3 rfl rfl rfl rfl rfl rfl ?_
  intro w23z H
  refine s_nil <| W.seq <| W.seq <| W.region rfl <| sM (I n) rfl <| sC n 256 (decide (256 < n)) rfl rfl rfl <| s_nil ?_
  refine W.cond (decide (256 < n)) rfl (fun c24z => ?_) (fun c24z => ?_)
  ·replace hM := M.e_t hM c24z
   simp only [qz1, qz2, qz3, qz4, qz5, qz6, ne_eq, qz7] at c24z
   refine W.region rfl <| sM (I (((s_bytes.getD (Int.toNat (s_used % (s_bytes.length : Int))) 0).toNat : Int) + ((11 * s_mix) + (s_used / (s_bytes.length : Int))))) rfl ?_
   obtain ⟨sd25z, hM⟩ := M.e_grd hM
   simp only [Bool.and_eq_true, decide_eq_true_eq] at sd25z
   refine s_val (x_ari (a := 256) (b := ((s_bytes.getD (Int.toNat (s_used % (s_bytes.length : Int))) 0).toNat : Int) + ((11 * s_mix) + (s_used / (s_bytes.length : Int)))) (r := 256 * (((s_bytes.getD (Int.toNat (s_used % (s_bytes.length : Int))) 0).toNat : Int) + ((11 * s_mix) + (s_used / (s_bytes.length : Int))))) rfl rfl rfl (by omega)) <| sM (Pz b_s) rfl <| s_val (x_nc (a := ⟨b_s, 0, none⟩) rfl) <| s_val (x_fa (a := Pz b_s) (v := Oz b_s 2) rfl (fa_blk (o := 0) Fd158_2 Sz3)) <| s_val (x_ld (p := Oz b_s 2) (v := I ((((5 * s_mix) + (((s_bytes.getD (Int.toNat (s_used % (s_bytes.length : Int))) 0).toNat : Int) + ((11 * s_mix) + (s_used / (s_bytes.length : Int))))) + 1) % 251)) rfl (ldb_sc Sc3 (H.blk (k := 0) rfl) rfl)) ?_
   obtain ⟨sd26z, hM⟩ := M.e_grd hM
   simp only [Bool.and_eq_true, decide_eq_true_eq] at sd26z
   refine s_val (x_ari (a := 256 * (((s_bytes.getD (Int.toNat (s_used % (s_bytes.length : Int))) 0).toNat : Int) + ((11 * s_mix) + (s_used / (s_bytes.length : Int))))) (b := (((5 * s_mix) + (((s_bytes.getD (Int.toNat (s_used % (s_bytes.length : Int))) 0).toNat : Int) + ((11 * s_mix) + (s_used / (s_bytes.length : Int))))) + 1) % 251) (r := (256 * (((s_bytes.getD (Int.toNat (s_used % (s_bytes.length : Int))) 0).toNat : Int) + ((11 * s_mix) + (s_used / (s_bytes.length : Int))))) + ((((5 * s_mix) + (((s_bytes.getD (Int.toNat (s_used % (s_bytes.length : Int))) 0).toNat : Int) + ((11 * s_mix) + (s_used / (s_bytes.length : Int))))) + 1) % 251)) rfl rfl rfl (by omega)) <| sA (I ((256 * (((s_bytes.getD (Int.toNat (s_used % (s_bytes.length : Int))) 0).toNat : Int) + ((11 * s_mix) + (s_used / (s_bytes.length : Int))))) + ((((5 * s_mix) + (((s_bytes.getD (Int.toNat (s_used % (s_bytes.length : Int))) 0).toNat : Int) + ((11 * s_mix) + (s_used / (s_bytes.length : Int))))) + 1) % 251))) rfl <| s_nil <| W.seq <| W.region rfl <| sM (I ((256 * (((s_bytes.getD (Int.toNat (s_used % (s_bytes.length : Int))) 0).toNat : Int) + ((11 * s_mix) + (s_used / (s_bytes.length : Int))))) + ((((5 * s_mix) + (((s_bytes.getD (Int.toNat (s_used % (s_bytes.length : Int))) 0).toNat : Int) + ((11 * s_mix) + (s_used / (s_bytes.length : Int))))) + 1) % 251))) rfl <| sM (I n) rfl ?_
   obtain ⟨sd27z, hM⟩ := M.e_grd hM
   simp only [Bool.and_eq_true, decide_eq_true_eq] at sd27z
   refine s_val (x_rem' (a := (256 * (((s_bytes.getD (Int.toNat (s_used % (s_bytes.length : Int))) 0).toNat : Int) + ((11 * s_mix) + (s_used / (s_bytes.length : Int))))) + ((((5 * s_mix) + (((s_bytes.getD (Int.toNat (s_used % (s_bytes.length : Int))) 0).toNat : Int) + ((11 * s_mix) + (s_used / (s_bytes.length : Int))))) + 1) % 251)) (b := n) rfl rfl (by omega)) <| sA (I (((256 * (((s_bytes.getD (Int.toNat (s_used % (s_bytes.length : Int))) 0).toNat : Int) + ((11 * s_mix) + (s_used / (s_bytes.length : Int))))) + ((((5 * s_mix) + (((s_bytes.getD (Int.toNat (s_used % (s_bytes.length : Int))) 0).toNat : Int) + ((11 * s_mix) + (s_used / (s_bytes.length : Int))))) + 1) % 251)) % n)) rfl <| s_nil ?_
   refine W.ret ?_
   have hr_ := M.e_pure hM
   exact ⟨_, resE_tmp rfl, ⟨(((256 * (((s_bytes.getD (Int.toNat (s_used % (s_bytes.length : Int))) 0).toNat : Int) + ((11 * s_mix) + (s_used / (s_bytes.length : Int))))) + ((((5 * s_mix) + (((s_bytes.getD (Int.toNat (s_used % (s_bytes.length : Int))) 0).toNat : Int) + ((11 * s_mix) + (s_used / (s_bytes.length : Int))))) + 1) % 251)) % n), (s_used + 1), ((((5 * s_mix) + (((s_bytes.getD (Int.toNat (s_used % (s_bytes.length : Int))) 0).toNat : Int) + ((11 * s_mix) + (s_used / (s_bytes.length : Int))))) + 1) % 251), hr_, rfl, H⟩⟩
  replace hM := M.e_f hM c24z
  simp only [qz1, qz2, qz3, qz4, qz5, qz6, ne_eq, qz7] at c24z
  refine W.skip <| W.seq <| W.region rfl <| sM (I (((s_bytes.getD (Int.toNat (s_used % (s_bytes.length : Int))) 0).toNat : Int) + ((11 * s_mix) + (s_used / (s_bytes.length : Int))))) rfl <| sM (I n) rfl ?_
  obtain ⟨sd28z, hM⟩ := M.e_grd hM
  simp only [Bool.and_eq_true, decide_eq_true_eq] at sd28z
  refine s_val (x_rem' (a := ((s_bytes.getD (Int.toNat (s_used % (s_bytes.length : Int))) 0).toNat : Int) + ((11 * s_mix) + (s_used / (s_bytes.length : Int)))) (b := n) rfl rfl (by omega)) <| sA (I ((((s_bytes.getD (Int.toNat (s_used % (s_bytes.length : Int))) 0).toNat : Int) + ((11 * s_mix) + (s_used / (s_bytes.length : Int)))) % n)) rfl <| s_nil ?_
  refine W.ret ?_
  have hr_ := M.e_pure hM
  exact ⟨_, resE_tmp rfl, ⟨((((s_bytes.getD (Int.toNat (s_used % (s_bytes.length : Int))) 0).toNat : Int) + ((11 * s_mix) + (s_used / (s_bytes.length : Int)))) % n), (s_used + 1), ((((5 * s_mix) + (((s_bytes.getD (Int.toNat (s_used % (s_bytes.length : Int))) 0).toNat : Int) + ((11 * s_mix) + (s_used / (s_bytes.length : Int))))) + 1) % 251), hr_, rfl, H⟩⟩
 replace hM := M.e_f hM c10z
 simp only [qz1, qz2, qz3, qz4, qz5, qz6, ne_eq, qz7] at c10z
 refine W.skip <| W.seq <| W.region rfl <| sM (Pz b_s) rfl <| sM (Pz b_s) rfl <| s_val (x_nc (a := ⟨b_s, 0, none⟩) rfl) <| s_val (x_fa (a := Pz b_s) (v := Oz b_s 2) rfl (fa_blk (o := 0) Fd158_2 Sz3)) <| s_val (x_ld (p := Oz b_s 2) (v := I s_mix) rfl (ldb_sc Sc3 (H.blk (k := 0) rfl) rfl)) ?_
 obtain ⟨sd29z, hM⟩ := M.e_grd hM
 simp only [Bool.and_eq_true, decide_eq_true_eq] at sd29z
 refine s_val (x_ari (a := 5) (b := s_mix) (r := 5 * s_mix) rfl rfl rfl (by omega)) <| sM (I ((s_bytes.getD (Int.toNat (s_used % (s_bytes.length : Int))) 0).toNat : Int)) rfl ?_
 obtain ⟨sd30z, hM⟩ := M.e_grd hM
 simp only [Bool.and_eq_true, decide_eq_true_eq] at sd30z
 refine s_val (x_ari (a := 5 * s_mix) (b := ((s_bytes.getD (Int.toNat (s_used % (s_bytes.length : Int))) 0).toNat : Int)) (r := (5 * s_mix) + ((s_bytes.getD (Int.toNat (s_used % (s_bytes.length : Int))) 0).toNat : Int)) rfl rfl rfl (by omega)) ?_
 obtain ⟨sd31z, hM⟩ := M.e_grd hM
 simp only [Bool.and_eq_true, decide_eq_true_eq] at sd31z
 refine s_val (x_ari (a := (5 * s_mix) + ((s_bytes.getD (Int.toNat (s_used % (s_bytes.length : Int))) 0).toNat : Int)) (b := 1) (r := ((5 * s_mix) + ((s_bytes.getD (Int.toNat (s_used % (s_bytes.length : Int))) 0).toNat : Int)) + 1) rfl rfl rfl (by omega)) ?_
 obtain ⟨sd32z, hM⟩ := M.e_grd hM
 simp only [Bool.and_eq_true, decide_eq_true_eq] at sd32z
 refine s_val (x_rem' (a := ((5 * s_mix) + ((s_bytes.getD (Int.toNat (s_used % (s_bytes.length : Int))) 0).toNat : Int)) + 1) (b := 251) rfl rfl (by omega)) <| s_val (x_nc (a := ⟨b_s, 0, none⟩) rfl) <| s_val (x_fa (a := Pz b_s) (v := Oz b_s 2) rfl (fa_blk (o := 0) Fd158_2 Sz3)) ?_
 refine t_st (k := 0) (b := b_s) (off := 2) (cs := [v_s_bytes, I s_used, I s_mix]) (vs := [I ((((5 * s_mix) + ((s_bytes.getD (Int.toNat (s_used % (s_bytes.length : Int))) 0).toNat : Int)) + 1) % 251)]) (cs' := [v_s_bytes, I s_used, I ((((5 * s_mix) + ((s_bytes.getD (Int.toNat (s_used % (s_bytes.length : Int))) 0).toNat : Int)) + 1) % 251)]) (v := I ((((5 * s_mix) + ((s_bytes.getD (Int.toNat (s_used % (s_bytes.length : Int))) 0).toNat : Int)) + 1) % 251)) (L' := [cBlk b_s [v_s_bytes, I s_used, I ((((5 * s_mix) + ((s_bytes.getD (Int.toNat (s_used % (s_bytes.length : Int))) 0).toNat : Int)) + 1) % 251)] 158]) H rfl rfl rfl Sz3 rfl rfl rfl rfl rfl rfl ?_
 intro w33z H
 refine s_nil <| W.seq <| W.region rfl <| sM (Pz b_s) rfl <| s_val (x_nc (a := ⟨b_s, 0, none⟩) rfl) <| s_val (x_fa (a := Pz b_s) (v := Oz b_s 1) rfl (fa_blk (o := 0) Fd158_1 Sz3)) <| s_val (x_ld (p := Oz b_s 1) (v := I s_used) rfl (ldb_sc Sc3 (H.blk (k := 0) rfl) rfl)) ?_
 obtain ⟨sd34z, hM⟩ := M.e_grd hM
 simp only [Bool.and_eq_true, decide_eq_true_eq] at sd34z
 refine s_val (x_ari (a := s_used) (b := 1) (r := s_used + 1) rfl rfl rfl (by omega)) <| s_val (x_nc (a := ⟨b_s, 0, none⟩) rfl) <| s_val (x_fa (a := Pz b_s) (v := Oz b_s 1) rfl (fa_blk (o := 0) Fd158_1 Sz3)) ?_
 refine t_st (k := 0) (b := b_s) (off := 1) (cs := [v_s_bytes, I s_used, I ((((5 * s_mix) + ((s_bytes.getD (Int.toNat (s_used % (s_bytes.length : Int))) 0).toNat : Int)) + 1) % 251)]) (vs := [I (s_used + 1)]) (cs' := [v_s_bytes, I (s_used + 1), I ((((5 * s_mix) + ((s_bytes.getD (Int.toNat (s_used % (s_bytes.length : Int))) 0).toNat : Int)) + 1) % 251)]) (v := I (s_used + 1)) (L' := [cBlk b_s [v_s_bytes, I (s_used + 1), I ((((5 * s_mix) + ((s_bytes.getD (Int.toNat (s_used % (s_bytes.length : Int))) 0).toNat : Int)) + 1) % 251)] 158]) H rfl rfl rfl Sz3 rfl rfl rfl rfl rfl rfl ?_
 intro w35z H
 refine s_nil <| W.seq <| W.seq <| W.region rfl <| sM (I n) rfl <| sC n 256 (decide (256 < n)) rfl rfl rfl <| s_nil ?_
 refine W.cond (decide (256 < n)) rfl (fun c36z => ?_) (fun c36z => ?_)
 ·replace hM := M.e_t hM c36z
  simp only [qz1, qz2, qz3, qz4, qz5, qz6, ne_eq, qz7] at c36z
  refine W.region rfl <| sM (I ((s_bytes.getD (Int.toNat (s_used % (s_bytes.length : Int))) 0).toNat : Int)) rfl ?_
  obtain ⟨sd37z, hM⟩ := M.e_grd hM
  simp only [Bool.and_eq_true, decide_eq_true_eq] at sd37z
  refine s_val (x_ari (a := 256) (b := ((s_bytes.getD (Int.toNat (s_used % (s_bytes.length : Int))) 0).toNat : Int)) (r := 256 * ((s_bytes.getD (Int.toNat (s_used % (s_bytes.length : Int))) 0).toNat : Int)) rfl rfl rfl (by omega)) <| sM (Pz b_s) rfl <| s_val (x_nc (a := ⟨b_s, 0, none⟩) rfl) <| s_val (x_fa (a := Pz b_s) (v := Oz b_s 2) rfl (fa_blk (o := 0) Fd158_2 Sz3)) <| s_val (x_ld (p := Oz b_s 2) (v := I ((((5 * s_mix) + ((s_bytes.getD (Int.toNat (s_used % (s_bytes.length : Int))) 0).toNat : Int)) + 1) % 251)) rfl (ldb_sc Sc3 (H.blk (k := 0) rfl) rfl)) ?_
  obtain ⟨sd38z, hM⟩ := M.e_grd hM
  simp only [Bool.and_eq_true, decide_eq_true_eq] at sd38z
  refine s_val (x_ari (a := 256 * ((s_bytes.getD (Int.toNat (s_used % (s_bytes.length : Int))) 0).toNat : Int)) (b := (((5 * s_mix) + ((s_bytes.getD (Int.toNat (s_used % (s_bytes.length : Int))) 0).toNat : Int)) + 1) % 251) (r := (256 * ((s_bytes.getD (Int.toNat (s_used % (s_bytes.length : Int))) 0).toNat : Int)) + ((((5 * s_mix) + ((s_bytes.getD (Int.toNat (s_used % (s_bytes.length : Int))) 0).toNat : Int)) + 1) % 251)) rfl rfl rfl (by omega)) <| sA (I ((256 * ((s_bytes.getD (Int.toNat (s_used % (s_bytes.length : Int))) 0).toNat : Int)) + ((((5 * s_mix) + ((s_bytes.getD (Int.toNat (s_used % (s_bytes.length : Int))) 0).toNat : Int)) + 1) % 251))) rfl <| s_nil <| W.seq <| W.region rfl <| sM (I ((256 * ((s_bytes.getD (Int.toNat (s_used % (s_bytes.length : Int))) 0).toNat : Int)) + ((((5 * s_mix) + ((s_bytes.getD (Int.toNat (s_used % (s_bytes.length : Int))) 0).toNat : Int)) + 1) % 251))) rfl <| sM (I n) rfl ?_
  obtain ⟨sd39z, hM⟩ := M.e_grd hM
  simp only [Bool.and_eq_true, decide_eq_true_eq] at sd39z
  refine s_val (x_rem' (a := (256 * ((s_bytes.getD (Int.toNat (s_used % (s_bytes.length : Int))) 0).toNat : Int)) + ((((5 * s_mix) + ((s_bytes.getD (Int.toNat (s_used % (s_bytes.length : Int))) 0).toNat : Int)) + 1) % 251)) (b := n) rfl rfl (by omega)) <| sA (I (((256 * ((s_bytes.getD (Int.toNat (s_used % (s_bytes.length : Int))) 0).toNat : Int)) + ((((5 * s_mix) + ((s_bytes.getD (Int.toNat (s_used % (s_bytes.length : Int))) 0).toNat : Int)) + 1) % 251)) % n)) rfl <| s_nil ?_
  refine W.ret ?_
  have hr_ := M.e_pure hM
  exact ⟨_, resE_tmp rfl, ⟨(((256 * ((s_bytes.getD (Int.toNat (s_used % (s_bytes.length : Int))) 0).toNat : Int)) + ((((5 * s_mix) + ((s_bytes.getD (Int.toNat (s_used % (s_bytes.length : Int))) 0).toNat : Int)) + 1) % 251)) % n), (s_used + 1), ((((5 * s_mix) + ((s_bytes.getD (Int.toNat (s_used % (s_bytes.length : Int))) 0).toNat : Int)) + 1) % 251), hr_, rfl, H⟩⟩
 replace hM := M.e_f hM c36z
 simp only [qz1, qz2, qz3, qz4, qz5, qz6, ne_eq, qz7] at c36z
 refine W.skip <| W.seq <| W.region rfl <| sM (I ((s_bytes.getD (Int.toNat (s_used % (s_bytes.length : Int))) 0).toNat : Int)) rfl <| sM (I n) rfl ?_
 obtain ⟨sd40z, hM⟩ := M.e_grd hM
 simp only [Bool.and_eq_true, decide_eq_true_eq] at sd40z
 refine s_val (x_rem' (a := ((s_bytes.getD (Int.toNat (s_used % (s_bytes.length : Int))) 0).toNat : Int)) (b := n) rfl rfl (by omega)) <| sA (I (((s_bytes.getD (Int.toNat (s_used % (s_bytes.length : Int))) 0).toNat : Int) % n)) rfl <| s_nil ?_
 refine W.ret ?_
 have hr_ := M.e_pure hM
 exact ⟨_, resE_tmp rfl, ⟨(((s_bytes.getD (Int.toNat (s_used % (s_bytes.length : Int))) 0).toNat : Int) % n), (s_used + 1), ((((5 * s_mix) + ((s_bytes.getD (Int.toNat (s_used % (s_bytes.length : Int))) 0).toNat : Int)) + 1) % 251), hr_, rfl, H⟩⟩

def m_nilometerkit_Mixed_b0 (s_bytes : List UInt8) (n : Int) : (Int × Int × Nat × (List Int)) → M ((Int × Int × Nat × (List Int)) ⊕ ((List Int) × (List Int) × Int × Int)) := fun (s2, s3, i, l) =>
  bif decide ((i : Int) < n) then (
  M.grd (decide ((-9223372036854775808 : Int) ≤ ((i : Int) + 1)) && decide (((i : Int) + 1) ≤ (9223372036854775807 : Int))) <|
  M.bind (m_nilometerkit_Stream_Next s_bytes s2 s3 ((i : Int) + 1)) fun (r2, q1, q2) =>
  M.grd (decide ((l.length + ([(i : Int)]).length) * 8 ≤ 140737488355328)) <|
  M.grd (decide ((0 : Int) ≤ r2) && decide (r2 < ((l ++ ([(i : Int)])).length : Int))) <|
  M.grd (decide ((i : Int) < ((l ++ ([(i : Int)])).length : Int))) <|
  M.grd (decide ((0 : Int) ≤ r2) && decide (r2 < (((l ++ ([(i : Int)])).set i ((l ++ ([(i : Int)])).getD (Int.toNat r2) 0 : Int)).length : Int))) <|
  M.pure (.inl (q1, q2, i + 1, ((l ++ ([(i : Int)])).set i ((l ++ ([(i : Int)])).getD (Int.toNat r2) 0 : Int)).set (Int.toNat r2) ((l ++ ([(i : Int)])).getD i 0 : Int))))
  else (
  M.pure (.inr (l, l, s2, s3)))
def m_nilometerkit_Mixed (s_bytes : List UInt8) (s_used : Int) (s_mix : Int) (n : Int) : M ((List Int) × Int × Int) :=
  M.bind (M.iter (m_nilometerkit_Mixed_b0 s_bytes n) (s_used, s_mix, 0, [])) fun (l2, l3, s4, s5) =>
  M.pure (l3, s4, s5)
theorem nilometerkit_Mixed_ok {R : List Chunk} {b_s : Nat} {C_s_bytes : Cells} {v_s_bytes : Value} (s_bytes : List UInt8) (s_used : Int) (s_mix : Int) (n : Int) (hC_s_bytes : Reads R C_s_bytes) (hs_s_bytes : Sl C_s_bytes v_s_bytes s_bytes) {r : ((List Int) × Int × Int)} (hM : (m_nilometerkit_Mixed s_bytes s_used s_mix n).Ends r) (w : World) (H : St w w [cBlk b_s [v_s_bytes, I s_used, I s_mix] 158] R) : Ret Try.prog 46 #[Pz b_s, I n] w fun v w' => ∃ (y0 : List Int) (y1 : Int) (y2 : Int) (u0 : Value), (y0, y1, y2) = r ∧ v = u0 ∧ St w w' [cOwn (α := Int) 3 u0 y0, cBlk b_s [v_s_bytes, I y1, I y2] 158] R := by
 refine ret_of_W Try.func46 rfl rfl rfl ?_
 refine W.seq <| W.region rfl <| sA (.slice none 0 0) rfl <| s_nil <| W.seq <| W.region rfl <| sA (.slice none 0 0) rfl <| s_nil <| W.seq <| W.seq <| W.region rfl <| sA (I 0) rfl ?_
 refine s_nil <| W.block ?_
 replace H : St w w [cOwn (α := Int) 3 (.slice none 0 0) ([]), cBlk b_s [v_s_bytes, I s_used, I s_mix] 158] R := H.nilOwn (α := Int) 3
 obtain ⟨ex1z, hi2z, hk3z⟩ := M.e_bind hM
 obtain ⟨m0_, hi2z⟩ := M.e_iter hi2z
 refine W.loop (fun m σ W => ∃ (s2 : Int) (s3 : Int) (i : Nat) (l : List Int) (v_l : Value) (ρ : Env), σ = upds ρ [(0, Pz b_s), (1, I n), (5, v_l), (6, I (i : Int))] ∧ M.iterN (m_nilometerkit_Mixed_b0 s_bytes n) m (s2, s3, i, l) = some ex1z ∧ St w W [cOwn (α := Int) 3 v_l l, cBlk b_s [v_s_bytes, I s2, I s3] 158] R) ?_ ?_
 ·exact ⟨_, s_used, s_mix, 0, [], (.slice none 0 0), _, upds_of _ _ ⟨rfl, rfl, rfl, rfl, trivial⟩, hi2z, H⟩
 rintro m6z σ w4z ⟨s2, s3, i, l, v_l, ρ, rfl, hI5z, H⟩
 obtain ⟨m7z, lt8z, x9z, hM, hN10z⟩ := M.e_iterN hI5z
 simp only [m_nilometerkit_Mixed_b0] at hM
 clear hI5z
 refine W.seq <| W.seq <| W.region rfl <| sM (I (i : Int)) rfl <| sM (I n) rfl <| sC (i : Int) n (decide ((i : Int) < n)) rfl rfl rfl <| s_nil ?_
 refine W.cond (decide ((i : Int) < n)) rfl (fun c11z => ?_) (fun c11z => ?_)
 ·replace hM := M.e_t hM c11z
  simp only [qz1, qz2, qz3, qz4, qz5, qz6, ne_eq, qz7] at c11z
  refine W.skip <| W.seq <| W.block <| W.seq <| W.region rfl <| sM (Pz b_s) rfl <| sM (I (i : Int)) rfl ?_
  obtain ⟨sd12z, hM⟩ := M.e_grd hM
  simp only [Bool.and_eq_true, decide_eq_true_eq] at sd12z
  refine s_val (x_ari (a := (i : Int)) (b := 1) (r := (i : Int) + 1) rfl rfl rfl (by omega)) ?_
  obtain ⟨r14z, hx13z, hM⟩ := M.e_bind hM
  refine s_call cf44 [Pz b_s, I ((i : Int) + 1)] rfl (nilometerkit_Stream_Next_ok s_bytes s2 s3 ((i : Int) + 1) (hC_s_bytes.app _) hs_s_bytes hx13z _ (St.give (L := [cBlk b_s [v_s_bytes, I s2, I s3] 158, cOwn (α := Int) 3 v_l l]) (A := [cBlk b_s [v_s_bytes, I s2, I s3] 158]) (T := [cOwn (α := Int) 3 v_l l]) (H.pick [1, 0] (by decide) rfl) rfl)) ?_
  rintro vq w15z ⟨r2, q1, q2, hr16z, hvq, H2_⟩
  subst hr16z
  subst vq
  try dsimp only at hM
  replace H : St w w15z [cBlk b_s [v_s_bytes, I q1, I q2] 158, cOwn (α := Int) 3 v_l l] R := H.pick [1, 0] (by decide) rfl |>.back H2_ rfl
  clear H2_
  refine sA (I r2) rfl <| s_nil <| W.seq <| W.region rfl <| sM v_l rfl <| sM (I (i : Int)) rfl ?_
  refine t_bs (α := Int) T34 [I (i : Int)] [(i : Int)] H rfl (.cons rfl (Flat.rep_enc _ (i : Int)) <| .nil) rfl rfl rfl ?_
  intro v17z w18z H
  obtain ⟨sd19z, hM⟩ := M.e_grd hM
  simp only [Bool.and_eq_true, decide_eq_true_eq] at sd19z
  refine t_app (α := Int) (k := 2) (l := l) (l2 := [(i : Int)]) (l' := l ++ ([(i : Int)])) (vy := v17z) T34 rfl H rfl rfl rfl (ownSl (H.get (k := 0) rfl)) (ownLe _ (H.get (k := 0) rfl)) (rfl) (by first | omega | (simp only [List.length_nil] at *; omega)) ?_
  intro v20z w21z H
  replace H : St w w21z [cOwn (α := Int) 3 v17z ([(i : Int)]), cBlk b_s [v_s_bytes, I q1, I q2] 158, cOwn (α := Int) 3 v20z (l ++ ([(i : Int)]))] R := H
  refine sA v20z rfl <| s_nil ?_
  refine W.drawT (fun W => St w W [cOwn (α := Int) 3 v17z ([(i : Int)]), cBlk b_s [v_s_bytes, I q1, I q2] 158] R) (.q 0 (.q 1 (.q 2 (.q 3 (.q 4 (.q 5 (.q 8 (.q 9 (.l2 6 (.l2 7 (.l 10 (.l 11 (.l 12 (.l 13 (.l 14 (.l 15 .nil)))))) 10 (.l2 7 (.l 11 (.l 12 (.l 13 (.l 14 (.l 15 .nil))))) 11 (.l 7 (.l 12 (.l 13 (.l 14 (.l 15 .nil))))))) 10 (.l2 6 (.l2 7 (.l 11 (.l 12 (.l 13 (.l 14 (.l 15 .nil))))) 11 (.l 7 (.l 12 (.l 13 (.l 14 (.l 15 .nil)))))) 11 (.l 6 (.l 7 (.l 12 (.l 13 (.l 14 (.l 15 .nil)))))))))))))))) mixed (by decide +kernel) rfl ?_
  intro w22z hx_
  replace H : St w w22z [cOwn (α := Int) 3 v17z ([(i : Int)]), cBlk b_s [v_s_bytes, I q1, I q2] 158, cOwn (α := Int) 3 v20z (l ++ ([(i : Int)]))] R := H.ext hx_
  clear hx_
  refine ⟨(H.pick [0, 1] (by decide) rfl), ?_⟩
  refine t_q rfl (fun w' H => x_mv (v := v20z) rfl) ?_
  refine t_q rfl (fun w' H => x_mv (v := I (i : Int)) rfl) ?_
  refine t_q rfl (fun w' H => x_mv (v := v20z) rfl) ?_
  refine t_q rfl (fun w' H => x_mv (v := I r2) rfl) ?_
  refine t_q rfl (fun w' H => x_mv (v := v20z) rfl) ?_
  refine t_q rfl (fun w' H => x_mv (v := I r2) rfl) ?_
  refine t_q rfl (fun w' H => x_mv (v := v20z) rfl) ?_
  refine t_q rfl (fun w' H => x_mv (v := I (i : Int)) rfl) ?_
  obtain ⟨sd23z, hM⟩ := M.e_grd hM
  simp only [Bool.and_eq_true, decide_eq_true_eq] at sd23z
  obtain ⟨sd24z, hM⟩ := M.e_grd hM
  simp only [Bool.and_eq_true, decide_eq_true_eq] at sd24z
  obtain ⟨sd26z, hM⟩ := M.e_grd hM
  simp only [Bool.and_eq_true, decide_eq_true_eq] at sd26z
  refine t_l2 rfl rfl ?_ ?_
  ·skip
   refine s_val (x_ix (a := v20z) (b := I r2) (v := vat v20z 1 (Int.toNat r2)) rfl rfl (Sl.ix (α := Int) T34.und T34.size (ownSl (H.get (k := 2) rfl)) (by omega) (by omega))) ?_
   refine s_nil ⟨(H.pick [0, 1] (by decide) rfl), ?_⟩
   refine t_l2 rfl rfl ?_ ?_
   ·skip
    refine s_val (x_ld (p := vat v20z 1 (Int.toNat r2)) (v := I ((l ++ ([(i : Int)])).getD (Int.toNat r2) 0)) rfl (ld_sc Sc3 (At.mono (Int_at (ownSl (H.get (k := 2) rfl)) (i := r2) (by omega) (by omega)) (ownLe _ (H.get (k := 2) rfl))))) ?_
    refine s_nil ⟨(H.pick [0, 1] (by decide) rfl), ?_⟩
    refine t_l rfl ?_
    refine s_val (x_ix (a := v20z) (b := I (i : Int)) (v := vat v20z 1 (Int.toNat (i : Int))) rfl rfl (Sl.ix (α := Int) T34.und T34.size (ownSl (H.get (k := 2) rfl)) (by omega) (by omega))) ?_
    refine s_nil ⟨(H.pick [0, 1] (by decide) rfl), ?_⟩
    refine t_l rfl ?_
    refine s_val (x_ld (p := vat v20z 1 (Int.toNat (i : Int))) (v := I ((l ++ ([(i : Int)])).getD i 0)) rfl (ld_sc Sc3 (At.mono (Int_at (ownSl (H.get (k := 2) rfl)) (i := (i : Int)) (by omega) (by omega)) (ownLe _ (H.get (k := 2) rfl))))) ?_
    refine s_nil ⟨(H.pick [0, 1] (by decide) rfl), ?_⟩
    refine t_l rfl ?_
    refine s_val (x_ix (a := v20z) (b := I (i : Int)) (v := vat v20z 1 (Int.toNat (i : Int))) rfl rfl (Sl.ix (α := Int) T34.und T34.size (ownSl (H.get (k := 2) rfl)) (by omega) (by omega))) ?_
    refine s_nil ⟨(H.pick [0, 1] (by decide) rfl), ?_⟩
    refine t_l rfl ?_
    refine t_ost (k := 2) (i := (i : Int)) (l := l ++ ([(i : Int)])) (l' := (l ++ ([(i : Int)])).set i ((l ++ ([(i : Int)])).getD (Int.toNat r2) 0 : Int)) (val := I ((l ++ ([(i : Int)])).getD (Int.toNat r2) 0)) (L' := [cOwn (α := Int) 3 v17z ([(i : Int)]), cBlk b_s [v_s_bytes, I q1, I q2] 158, cOwn (α := Int) 3 v20z ((l ++ ([(i : Int)])).set i ((l ++ ([(i : Int)])).getD (Int.toNat r2) 0 : Int))]) H rfl Sz3 (by omega) (by omega) ((l ++ ([(i : Int)])).getD (Int.toNat r2) 0 : Int) rfl rfl rfl rfl rfl ?_
    intro w28z H
    refine s_nil ⟨(H.pick [0, 1] (by decide) rfl), ?_⟩
    refine t_l rfl ?_
    refine s_val (x_ix (a := v20z) (b := I r2) (v := vat v20z 1 (Int.toNat r2)) rfl rfl (Sl.ix (α := Int) T34.und T34.size (ownSl (H.get (k := 2) rfl)) (by omega) (by omega))) ?_
    refine s_nil ⟨(H.pick [0, 1] (by decide) rfl), ?_⟩
    refine t_l rfl ?_
    refine t_ost (k := 2) (i := r2) (l := (l ++ ([(i : Int)])).set i ((l ++ ([(i : Int)])).getD (Int.toNat r2) 0 : Int)) (l' := ((l ++ ([(i : Int)])).set i ((l ++ ([(i : Int)])).getD (Int.toNat r2) 0 : Int)).set (Int.toNat r2) ((l ++ ([(i : Int)])).getD i 0 : Int)) (val := I ((l ++ ([(i : Int)])).getD i 0)) (L' := [cOwn (α := Int) 3 v17z ([(i : Int)]), cBlk b_s [v_s_bytes, I q1, I q2] 158, cOwn (α := Int) 3 v20z (((l ++ ([(i : Int)])).set i ((l ++ ([(i : Int)])).getD (Int.toNat r2) 0 : Int)).set (Int.toNat r2) ((l ++ ([(i : Int)])).getD i 0 : Int))]) H rfl Sz3 (by omega) (by omega) ((l ++ ([(i : Int)])).getD i 0 : Int) rfl rfl rfl rfl rfl ?_
    intro w29z H
    refine s_nil ⟨(H.pick [0, 1] (by decide) rfl), ?_⟩
    refine t_nil ?_
    refine W.region rfl <| sM (I (i : Int)) rfl <| s_val (x_ari (a := (i : Int)) (b := 1) (r := (i : Int) + 1) rfl rfl rfl (by omega)) <| sA (I ((i : Int) + 1)) rfl <| s_nil ?_
    exact ⟨m7z, lt8z, q1, q2, i + 1, ((l ++ ([(i : Int)])).set i ((l ++ ([(i : Int)])).getD (Int.toNat r2) 0 : Int)).set (Int.toNat r2) ((l ++ ([(i : Int)])).getD i 0 : Int), v20z, _, upds_of _ _ ⟨rfl, rfl, rfl, rfl, trivial⟩, M.e_inl hM hN10z, (H.pick [2, 1] (by decide) rfl)⟩
   skip
   refine s_val (x_ix (a := v20z) (b := I (i : Int)) (v := vat v20z 1 (Int.toNat (i : Int))) rfl rfl (Sl.ix (α := Int) T34.und T34.size (ownSl (H.get (k := 2) rfl)) (by omega) (by omega))) ?_
   refine s_nil ⟨(H.pick [0, 1] (by decide) rfl), ?_⟩
   refine t_l2 rfl rfl ?_ ?_
   ·skip
    refine s_val (x_ld (p := vat v20z 1 (Int.toNat r2)) (v := I ((l ++ ([(i : Int)])).getD (Int.toNat r2) 0)) rfl (ld_sc Sc3 (At.mono (Int_at (ownSl (H.get (k := 2) rfl)) (i := r2) (by omega) (by omega)) (ownLe _ (H.get (k := 2) rfl))))) ?_
    refine s_nil ⟨(H.pick [0, 1] (by decide) rfl), ?_⟩
    refine t_l rfl ?_
    refine s_val (x_ld (p := vat v20z 1 (Int.toNat (i : Int))) (v := I ((l ++ ([(i : Int)])).getD i 0)) rfl (ld_sc Sc3 (At.mono (Int_at (ownSl (H.get (k := 2) rfl)) (i := (i : Int)) (by omega) (by omega)) (ownLe _ (H.get (k := 2) rfl))))) ?_
    refine s_nil ⟨(H.pick [0, 1] (by decide) rfl), ?_⟩
    refine t_l rfl ?_
    refine s_val (x_ix (a := v20z) (b := I (i : Int)) (v := vat v20z 1 (Int.toNat (i : Int))) rfl rfl (Sl.ix (α := Int) T34.und T34.size (ownSl (H.get (k := 2) rfl)) (by omega) (by omega))) ?_
    refine s_nil ⟨(H.pick [0, 1] (by decide) rfl), ?_⟩
    refine t_l rfl ?_
    refine t_ost (k := 2) (i := (i : Int)) (l := l ++ ([(i : Int)])) (l' := (l ++ ([(i : Int)])).set i ((l ++ ([(i : Int)])).getD (Int.toNat r2) 0 : Int)) (val := I ((l ++ ([(i : Int)])).getD (Int.toNat r2) 0)) (L' := [cOwn (α := Int) 3 v17z ([(i : Int)]), cBlk b_s [v_s_bytes, I q1, I q2] 158, cOwn (α := Int) 3 v20z ((l ++ ([(i : Int)])).set i ((l ++ ([(i : Int)])).getD (Int.toNat r2) 0 : Int))]) H rfl Sz3 (by omega) (by omega) ((l ++ ([(i : Int)])).getD (Int.toNat r2) 0 : Int) rfl rfl rfl rfl rfl ?_
    intro w30z H
    refine s_nil ⟨(H.pick [0, 1] (by decide) rfl), ?_⟩
    refine t_l rfl ?_
    refine s_val (x_ix (a := v20z) (b := I r2) (v := vat v20z 1 (Int.toNat r2)) rfl rfl (Sl.ix (α := Int) T34.und T34.size (ownSl (H.get (k := 2) rfl)) (by omega) (by omega))) ?_
    refine s_nil ⟨(H.pick [0, 1] (by decide) rfl), ?_⟩
    refine t_l rfl ?_
    refine t_ost (k := 2) (i := r2) (l := (l ++ ([(i : Int)])).set i ((l ++ ([(i : Int)])).getD (Int.toNat r2) 0 : Int)) (l' := ((l ++ ([(i : Int)])).set i ((l ++ ([(i : Int)])).getD (Int.toNat r2) 0 : Int)).set (Int.toNat r2) ((l ++ ([(i : Int)])).getD i 0 : Int)) (val := I ((l ++ ([(i : Int)])).getD i 0)) (L' := [cOwn (α := Int) 3 v17z ([(i : Int)]), cBlk b_s [v_s_bytes, I q1, I q2] 158, cOwn (α := Int) 3 v20z (((l ++ ([(i : Int)])).set i ((l ++ ([(i : Int)])).getD (Int.toNat r2) 0 : Int)).set (Int.toNat r2) ((l ++ ([(i : Int)])).getD i 0 : Int))]) H rfl Sz3 (by omega) (by omega) ((l ++ ([(i : Int)])).getD i 0 : Int) rfl rfl rfl rfl rfl ?_
    intro w31z H
    refine s_nil ⟨(H.pick [0, 1] (by decide) rfl), ?_⟩
    refine t_nil ?_
    refine W.region rfl <| sM (I (i : Int)) rfl <| s_val (x_ari (a := (i : Int)) (b := 1) (r := (i : Int) + 1) rfl rfl rfl (by omega)) <| sA (I ((i : Int) + 1)) rfl <| s_nil ?_
    exact ⟨m7z, lt8z, q1, q2, i + 1, ((l ++ ([(i : Int)])).set i ((l ++ ([(i : Int)])).getD (Int.toNat r2) 0 : Int)).set (Int.toNat r2) ((l ++ ([(i : Int)])).getD i 0 : Int), v20z, _, upds_of _ _ ⟨rfl, rfl, rfl, rfl, trivial⟩, M.e_inl hM hN10z, (H.pick [2, 1] (by decide) rfl)⟩
   skip
   refine s_val (x_ld (p := vat v20z 1 (Int.toNat (i : Int))) (v := I ((l ++ ([(i : Int)])).getD i 0)) rfl (ld_sc Sc3 (At.mono (Int_at (ownSl (H.get (k := 2) rfl)) (i := (i : Int)) (by omega) (by omega)) (ownLe _ (H.get (k := 2) rfl))))) ?_
   refine s_nil ⟨(H.pick [0, 1] (by decide) rfl), ?_⟩
   refine t_l rfl ?_
   refine s_val (x_ld (p := vat v20z 1 (Int.toNat r2)) (v := I ((l ++ ([(i : Int)])).getD (Int.toNat r2) 0)) rfl (ld_sc Sc3 (At.mono (Int_at (ownSl (H.get (k := 2) rfl)) (i := r2) (by omega) (by omega)) (ownLe _ (H.get (k := 2) rfl))))) ?_
   refine s_nil ⟨(H.pick [0, 1] (by decide) rfl), ?_⟩
   refine t_l rfl ?_
   refine s_val (x_ix (a := v20z) (b := I (i : Int)) (v := vat v20z 1 (Int.toNat (i : Int))) rfl rfl (Sl.ix (α := Int) T34.und T34.size (ownSl (H.get (k := 2) rfl)) (by omega) (by omega))) ?_
   refine s_nil ⟨(H.pick [0, 1] (by decide) rfl), ?_⟩
   refine t_l rfl ?_
   refine t_ost (k := 2) (i := (i : Int)) (l := l ++ ([(i : Int)])) (l' := (l ++ ([(i : Int)])).set i ((l ++ ([(i : Int)])).getD (Int.toNat r2) 0 : Int)) (val := I ((l ++ ([(i : Int)])).getD (Int.toNat r2) 0)) (L' := [cOwn (α := Int) 3 v17z ([(i : Int)]), cBlk b_s [v_s_bytes, I q1, I q2] 158, cOwn (α := Int) 3 v20z ((l ++ ([(i : Int)])).set i ((l ++ ([(i : Int)])).getD (Int.toNat r2) 0 : Int))]) H rfl Sz3 (by omega) (by omega) ((l ++ ([(i : Int)])).getD (Int.toNat r2) 0 : Int) rfl rfl rfl rfl rfl ?_
   intro w32z H
   refine s_nil ⟨(H.pick [0, 1] (by decide) rfl), ?_⟩
   refine t_l rfl ?_
   refine s_val (x_ix (a := v20z) (b := I r2) (v := vat v20z 1 (Int.toNat r2)) rfl rfl (Sl.ix (α := Int) T34.und T34.size (ownSl (H.get (k := 2) rfl)) (by omega) (by omega))) ?_
   refine s_nil ⟨(H.pick [0, 1] (by decide) rfl), ?_⟩
   refine t_l rfl ?_
   refine t_ost (k := 2) (i := r2) (l := (l ++ ([(i : Int)])).set i ((l ++ ([(i : Int)])).getD (Int.toNat r2) 0 : Int)) (l' := ((l ++ ([(i : Int)])).set i ((l ++ ([(i : Int)])).getD (Int.toNat r2) 0 : Int)).set (Int.toNat r2) ((l ++ ([(i : Int)])).getD i 0 : Int)) (val := I ((l ++ ([(i : Int)])).getD i 0)) (L' := [cOwn (α := Int) 3 v17z ([(i : Int)]), cBlk b_s [v_s_bytes, I q1, I q2] 158, cOwn (α := Int) 3 v20z (((l ++ ([(i : Int)])).set i ((l ++ ([(i : Int)])).getD (Int.toNat r2) 0 : Int)).set (Int.toNat r2) ((l ++ ([(i : Int)])).getD i 0 : Int))]) H rfl Sz3 (by omega) (by omega) ((l ++ ([(i : Int)])).getD i 0 : Int) rfl rfl rfl rfl rfl ?_
   intro w33z H
   refine s_nil ⟨(H.pick [0, 1] (by decide) rfl), ?_⟩
   refine t_nil ?_
   refine W.region rfl <| sM (I (i : Int)) rfl <| s_val (x_ari (a := (i : Int)) (b := 1) (r := (i : Int) + 1) rfl rfl rfl (by omega)) <| sA (I ((i : Int) + 1)) rfl <| s_nil ?_
   exact ⟨m7z, lt8z, q1, q2, i + 1, ((l ++ ([(i : Int)])).set i ((l ++ ([(i : Int)])).getD (Int.toNat r2) 0 : Int)).set (Int.toNat r2) ((l ++ ([(i : Int)])).getD i 0 : Int), v20z, _, upds_of _ _ ⟨rfl, rfl, rfl, rfl, trivial⟩, M.e_inl hM hN10z, (H.pick [2, 1] (by decide) rfl)⟩
  skip
  refine s_val (x_ix (a := v20z) (b := I (i : Int)) (v := vat v20z 1 (Int.toNat (i : Int))) rfl rfl (Sl.ix (α := Int) T34.und T34.size (ownSl (H.get (k := 2) rfl)) (by omega) (by omega))) ?_
  refine s_nil ⟨(H.pick [0, 1] (by decide) rfl), ?_⟩
  refine t_l2 rfl rfl ?_ ?_
  ·skip
   refine s_val (x_ix (a := v20z) (b := I r2) (v := vat v20z 1 (Int.toNat r2)) rfl rfl (Sl.ix (α := Int) T34.und T34.size (ownSl (H.get (k := 2) rfl)) (by omega) (by omega))) ?_
   refine s_nil ⟨(H.pick [0, 1] (by decide) rfl), ?_⟩
   refine t_l2 rfl rfl ?_ ?_
   ·skip
    refine s_val (x_ld (p := vat v20z 1 (Int.toNat r2)) (v := I ((l ++ ([(i : Int)])).getD (Int.toNat r2) 0)) rfl (ld_sc Sc3 (At.mono (Int_at (ownSl (H.get (k := 2) rfl)) (i := r2) (by omega) (by omega)) (ownLe _ (H.get (k := 2) rfl))))) ?_
    refine s_nil ⟨(H.pick [0, 1] (by decide) rfl), ?_⟩
    refine t_l rfl ?_
    refine s_val (x_ld (p := vat v20z 1 (Int.toNat (i : Int))) (v := I ((l ++ ([(i : Int)])).getD i 0)) rfl (ld_sc Sc3 (At.mono (Int_at (ownSl (H.get (k := 2) rfl)) (i := (i : Int)) (by omega) (by omega)) (ownLe _ (H.get (k := 2) rfl))))) ?_
    refine s_nil ⟨(H.pick [0, 1] (by decide) rfl), ?_⟩
    refine t_l rfl ?_
    refine s_val (x_ix (a := v20z) (b := I (i : Int)) (v := vat v20z 1 (Int.toNat (i : Int))) rfl rfl (Sl.ix (α := Int) T34.und T34.size (ownSl (H.get (k := 2) rfl)) (by omega) (by omega))) ?_
    refine s_nil ⟨(H.pick [0, 1] (by decide) rfl), ?_⟩
    refine t_l rfl ?_
    refine t_ost (k := 2) (i := (i : Int)) (l := l ++ ([(i : Int)])) (l' := (l ++ ([(i : Int)])).set i ((l ++ ([(i : Int)])).getD (Int.toNat r2) 0 : Int)) (val := I ((l ++ ([(i : Int)])).getD (Int.toNat r2) 0)) (L' := [cOwn (α := Int) 3 v17z ([(i : Int)]), cBlk b_s [v_s_bytes, I q1, I q2] 158, cOwn (α := Int) 3 v20z ((l ++ ([(i : Int)])).set i ((l ++ ([(i : Int)])).getD (Int.toNat r2) 0 : Int))]) H rfl Sz3 (by omega) (by omega) ((l ++ ([(i : Int)])).getD (Int.toNat r2) 0 : Int) rfl rfl rfl rfl rfl ?_
    intro w34z H
    refine s_nil ⟨(H.pick [0, 1] (by decide) rfl), ?_⟩
    refine t_l rfl ?_
    refine s_val (x_ix (a := v20z) (b := I r2) (v := vat v20z 1 (Int.toNat r2)) rfl rfl (Sl.ix (α := Int) T34.und T34.size (ownSl (H.get (k := 2) rfl)) (by omega) (by omega))) ?_
    refine s_nil ⟨(H.pick [0, 1] (by decide) rfl), ?_⟩
    refine t_l rfl ?_
    refine t_ost (k := 2) (i := r2) (l := (l ++ ([(i : Int)])).set i ((l ++ ([(i : Int)])).getD (Int.toNat r2) 0 : Int)) (l' := ((l ++ ([(i : Int)])).set i ((l ++ ([(i : Int)])).getD (Int.toNat r2) 0 : Int)).set (Int.toNat r2) ((l ++ ([(i : Int)])).getD i 0 : Int)) (val := I ((l ++ ([(i : Int)])).getD i 0)) (L' := [cOwn (α := Int) 3 v17z ([(i : Int)]), cBlk b_s [v_s_bytes, I q1, I q2] 158, cOwn (α := Int) 3 v20z (((l ++ ([(i : Int)])).set i ((l ++ ([(i : Int)])).getD (Int.toNat r2) 0 : Int)).set (Int.toNat r2) ((l ++ ([(i : Int)])).getD i 0 : Int))]) H rfl Sz3 (by omega) (by omega) ((l ++ ([(i : Int)])).getD i 0 : Int) rfl rfl rfl rfl rfl ?_
    intro w35z H
    refine s_nil ⟨(H.pick [0, 1] (by decide) rfl), ?_⟩
    refine t_nil ?_
    refine W.region rfl <| sM (I (i : Int)) rfl <| s_val (x_ari (a := (i : Int)) (b := 1) (r := (i : Int) + 1) rfl rfl rfl (by omega)) <| sA (I ((i : Int) + 1)) rfl <| s_nil ?_
    exact ⟨m7z, lt8z, q1, q2, i + 1, ((l ++ ([(i : Int)])).set i ((l ++ ([(i : Int)])).getD (Int.toNat r2) 0 : Int)).set (Int.toNat r2) ((l ++ ([(i : Int)])).getD i 0 : Int), v20z, _, upds_of _ _ ⟨rfl, rfl, rfl, rfl, trivial⟩, M.e_inl hM hN10z, (H.pick [2, 1] (by decide) rfl)⟩
   skip
   refine s_val (x_ld (p := vat v20z 1 (Int.toNat (i : Int))) (v := I ((l ++ ([(i : Int)])).getD i 0)) rfl (ld_sc Sc3 (At.mono (Int_at (ownSl (H.get (k := 2) rfl)) (i := (i : Int)) (by omega) (by omega)) (ownLe _ (H.get (k := 2) rfl))))) ?_
   refine s_nil ⟨(H.pick [0, 1] (by decide) rfl), ?_⟩
   refine t_l rfl ?_
   refine s_val (x_ld (p := vat v20z 1 (Int.toNat r2)) (v := I ((l ++ ([(i : Int)])).getD (Int.toNat r2) 0)) rfl (ld_sc Sc3 (At.mono (Int_at (ownSl (H.get (k := 2) rfl)) (i := r2) (by omega) (by omega)) (ownLe _ (H.get (k := 2) rfl))))) ?_
   refine s_nil ⟨(H.pick [0, 1] (by decide) rfl), ?_⟩
   refine t_l rfl ?_
   refine s_val (x_ix (a := v20z) (b := I (i : Int)) (v := vat v20z 1 (Int.toNat (i : Int))) rfl rfl (Sl.ix (α := Int) T34.und T34.size (ownSl (H.get (k := 2) rfl)) (by omega) (by omega))) ?_
   refine s_nil ⟨(H.pick [0, 1] (by decide) rfl), ?_⟩
   refine t_l rfl ?_
   refine t_ost (k := 2) (i := (i : Int)) (l := l ++ ([(i : Int)])) (l' := (l ++ ([(i : Int)])).set i ((l ++ ([(i : Int)])).getD (Int.toNat r2) 0 : Int)) (val := I ((l ++ ([(i : Int)])).getD (Int.toNat r2) 0)) (L' := [cOwn (α := Int) 3 v17z ([(i : Int)]), cBlk b_s [v_s_bytes, I q1, I q2] 158, cOwn (α := Int) 3 v20z ((l ++ ([(i : Int)])).set i ((l ++ ([(i : Int)])).getD (Int.toNat r2) 0 : Int))]) H rfl Sz3 (by omega) (by omega) ((l ++ ([(i : Int)])).getD (Int.toNat r2) 0 : Int) rfl rfl rfl rfl rfl ?_
   intro w36z H
   refine s_nil ⟨(H.pick [0, 1] (by decide) rfl), ?_⟩
   refine t_l rfl ?_
   refine s_val (x_ix (a := v20z) (b := I r2) (v := vat v20z 1 (Int.toNat r2)) rfl rfl (Sl.ix (α := Int) T34.und T34.size (ownSl (H.get (k := 2) rfl)) (by omega) (by omega))) ?_
   refine s_nil ⟨(H.pick [0, 1] (by decide) rfl), ?_⟩
   refine t_l rfl ?_
   refine t_ost (k := 2) (i := r2) (l := (l ++ ([(i : Int)])).set i ((l ++ ([(i : Int)])).getD (Int.toNat r2) 0 : Int)) (l' := ((l ++ ([(i : Int)])).set i ((l ++ ([(i : Int)])).getD (Int.toNat r2) 0 : Int)).set (Int.toNat r2) ((l ++ ([(i : Int)])).getD i 0 : Int)) (val := I ((l ++ ([(i : Int)])).getD i 0)) (L' := [cOwn (α := Int) 3 v17z ([(i : Int)]), cBlk b_s [v_s_bytes, I q1, I q2] 158, cOwn (α := Int) 3 v20z (((l ++ ([(i : Int)])).set i ((l ++ ([(i : Int)])).getD (Int.toNat r2) 0 : Int)).set (Int.toNat r2) ((l ++ ([(i : Int)])).getD i 0 : Int))]) H rfl Sz3 (by omega) (by omega) ((l ++ ([(i : Int)])).getD i 0 : Int) rfl rfl rfl rfl rfl ?_
   intro w37z H
   refine s_nil ⟨(H.pick [0, 1] (by decide) rfl), ?_⟩
   refine t_nil ?_
   refine W.region rfl <| sM (I (i : Int)) rfl <| s_val (x_ari (a := (i : Int)) (b := 1) (r := (i : Int) + 1) rfl rfl rfl (by omega)) <| sA (I ((i : Int) + 1)) rfl <| s_nil ?_
   exact ⟨m7z, lt8z, q1, q2, i + 1, ((l ++ ([(i : Int)])).set i ((l ++ ([(i : Int)])).getD (Int.toNat r2) 0 : Int)).set (Int.toNat r2) ((l ++ ([(i : Int)])).getD i 0 : Int), v20z, _, upds_of _ _ ⟨rfl, rfl, rfl, rfl, trivial⟩, M.e_inl hM hN10z, (H.pick [2, 1] (by decide) rfl)⟩
  skip
  refine s_val (x_ld (p := vat v20z 1 (Int.toNat (i : Int))) (v := I ((l ++ ([(i : Int)])).getD i 0)) rfl (ld_sc Sc3 (At.mono (Int_at (ownSl (H.get (k := 2) rfl)) (i := (i : Int)) (by omega) (by omega)) (ownLe _ (H.get (k := 2) rfl))))) ?_
  refine s_nil ⟨(H.pick [0, 1] (by decide) rfl), ?_⟩
  refine t_l rfl ?_
  refine s_val (x_ix (a := v20z) (b := I r2) (v := vat v20z 1 (Int.toNat r2)) rfl rfl (Sl.ix (α := Int) T34.und T34.size (ownSl (H.get (k := 2) rfl)) (by omega) (by omega))) ?_
  refine s_nil ⟨(H.pick [0, 1] (by decide) rfl), ?_⟩
  refine t_l rfl ?_
  refine s_val (x_ld (p := vat v20z 1 (Int.toNat r2)) (v := I ((l ++ ([(i : Int)])).getD (Int.toNat r2) 0)) rfl (ld_sc Sc3 (At.mono (Int_at (ownSl (H.get (k := 2) rfl)) (i := r2) (by omega) (by omega)) (ownLe _ (H.get (k := 2) rfl))))) ?_
  refine s_nil ⟨(H.pick [0, 1] (by decide) rfl), ?_⟩
  refine t_l rfl ?_
  refine s_val (x_ix (a := v20z) (b := I (i : Int)) (v := vat v20z 1 (Int.toNat (i : Int))) rfl rfl (Sl.ix (α := Int) T34.und T34.size (ownSl (H.get (k := 2) rfl)) (by omega) (by omega))) ?_
  refine s_nil ⟨(H.pick [0, 1] (by decide) rfl), ?_⟩
  refine t_l rfl ?_
  refine t_ost (k := 2) (i := (i : Int)) (l := l ++ ([(i : Int)])) (l' := (l ++ ([(i : Int)])).set i ((l ++ ([(i : Int)])).getD (Int.toNat r2) 0 : Int)) (val := I ((l ++ ([(i : Int)])).getD (Int.toNat r2) 0)) (L' := [cOwn (α := Int) 3 v17z ([(i : Int)]), cBlk b_s [v_s_bytes, I q1, I q2] 158, cOwn (α := Int) 3 v20z ((l ++ ([(i : Int)])).set i ((l ++ ([(i : Int)])).getD (Int.toNat r2) 0 : Int))]) H rfl Sz3 (by omega) (by omega) ((l ++ ([(i : Int)])).getD (Int.toNat r2) 0 : Int) rfl rfl rfl rfl rfl ?_
  intro w38z H
  refine s_nil ⟨(H.pick [0, 1] (by decide) rfl), ?_⟩
  refine t_l rfl ?_
  refine s_val (x_ix (a := v20z) (b := I r2) (v := vat v20z 1 (Int.toNat r2)) rfl rfl (Sl.ix (α := Int) T34.und T34.size (ownSl (H.get (k := 2) rfl)) (by omega) (by omega))) ?_
  refine s_nil ⟨(H.pick [0, 1] (by decide) rfl), ?_⟩
  refine t_l rfl ?_
  refine t_ost (k := 2) (i := r2) (l := (l ++ ([(i : Int)])).set i ((l ++ ([(i : Int)])).getD (Int.toNat r2) 0 : Int)) (l' := ((l ++ ([(i : Int)])).set i ((l ++ ([(i : Int)])).getD (Int.toNat r2) 0 : Int)).set (Int.toNat r2) ((l ++ ([(i : Int)])).getD i 0 : Int)) (val := I ((l ++ ([(i : Int)])).getD i 0)) (L' := [cOwn (α := Int) 3 v17z ([(i : Int)]), cBlk b_s [v_s_bytes, I q1, I q2] 158, cOwn (α := Int) 3 v20z (((l ++ ([(i : Int)])).set i ((l ++ ([(i : Int)])).getD (Int.toNat r2) 0 : Int)).set (Int.toNat r2) ((l ++ ([(i : Int)])).getD i 0 : Int))]) H rfl Sz3 (by omega) (by omega) ((l ++ ([(i : Int)])).getD i 0 : Int) rfl rfl rfl rfl rfl ?_
  intro w39z H
  refine s_nil ⟨(H.pick [0, 1] (by decide) rfl), ?_⟩
  refine t_nil ?_
  refine W.region rfl <| sM (I (i : Int)) rfl <| s_val (x_ari (a := (i : Int)) (b := 1) (r := (i : Int) + 1) rfl rfl rfl (by omega)) <| sA (I ((i : Int) + 1)) rfl <| s_nil ?_
  exact ⟨m7z, lt8z, q1, q2, i + 1, ((l ++ ([(i : Int)])).set i ((l ++ ([(i : Int)])).getD (Int.toNat r2) 0 : Int)).set (Int.toNat r2) ((l ++ ([(i : Int)])).getD i 0 : Int), v20z, _, upds_of _ _ ⟨rfl, rfl, rfl, rfl, trivial⟩, M.e_inl hM hN10z, (H.pick [2, 1] (by decide) rfl)⟩
 replace hM := M.e_f hM c11z
 simp only [qz1, qz2, qz3, qz4, qz5, qz6, ne_eq, qz7] at c11z
 refine W.exit ?_
 have hX40z := M.e_inr hM hN10z
 subst hX40z
 replace hM := hk3z
 try dsimp only at hM
 refine W.seq <| W.region rfl <| sM v_l rfl <| sA v_l rfl <| s_nil ?_
 refine W.ret ?_
 have hr_ := M.e_pure hM
 exact ⟨_, resE_tmp rfl, ⟨l, s2, s3, v_l, hr_, rfl, H⟩⟩

def m_nilometerkit_Stream_Within (s_bytes : List UInt8) (s_used : Int) (s_mix : Int) (lo : Int) (hi : Int) : M (Int × Int × Int) :=
  M.grd (decide ((-9223372036854775808 : Int) ≤ (hi - lo)) && decide ((hi - lo) ≤ (9223372036854775807 : Int))) <|
  M.grd (decide ((-9223372036854775808 : Int) ≤ ((hi - lo) + 1)) && decide (((hi - lo) + 1) ≤ (9223372036854775807 : Int))) <|
  M.bind (m_nilometerkit_Stream_Next s_bytes s_used s_mix ((hi - lo) + 1)) fun (r2, q1, q2) =>
  M.grd (decide ((-9223372036854775808 : Int) ≤ (lo + r2)) && decide ((lo + r2) ≤ (9223372036854775807 : Int))) <|
  M.pure ((lo + r2), q1, q2)
theorem nilometerkit_Stream_Within_ok {R : List Chunk} {b_s : Nat} {C_s_bytes : Cells} {v_s_bytes : Value} (s_bytes : List UInt8) (s_used : Int) (s_mix : Int) (lo : Int) (hi : Int) (hC_s_bytes : Reads R C_s_bytes) (hs_s_bytes : Sl C_s_bytes v_s_bytes s_bytes) {r : (Int × Int × Int)} (hM : (m_nilometerkit_Stream_Within s_bytes s_used s_mix lo hi).Ends r) (w : World) (H : St w w [cBlk b_s [v_s_bytes, I s_used, I s_mix] 158] R) : Ret Try.prog 43 #[Pz b_s, I lo, I hi] w fun v w' => ∃ (y0 : Int) (y1 : Int) (y2 : Int), (y0, y1, y2) = r ∧ v = I y0 ∧ St w w' [cBlk b_s [v_s_bytes, I y1, I y2] 158] R := by
 refine ret_of_W Try.func43 rfl rfl rfl ?_
 refine W.seq <| W.region rfl <| sA (I 0) rfl <| s_nil <| W.seq <| W.region rfl <| sM (I lo) rfl <| sM (Pz b_s) rfl <| sM (I hi) rfl <| sM (I lo) rfl ?_
 obtain ⟨sd1z, hM⟩ := M.e_grd hM
 simp only [Bool.and_eq_true, decide_eq_true_eq] at sd1z
 refine s_val (x_ari (a := hi) (b := lo) (r := hi - lo) rfl rfl rfl (by omega)) ?_
 obtain ⟨sd2z, hM⟩ := M.e_grd hM
 simp only [Bool.and_eq_true, decide_eq_true_eq] at sd2z
 refine s_val (x_ari (a := hi - lo) (b := 1) (r := (hi - lo) + 1) rfl rfl rfl (by omega)) ?_
 obtain ⟨r4z, hx3z, hM⟩ := M.e_bind hM
 refine s_call cf44 [Pz b_s, I ((hi - lo) + 1)] rfl (nilometerkit_Stream_Next_ok s_bytes s_used s_mix ((hi - lo) + 1) (hC_s_bytes.app _) hs_s_bytes hx3z _ (St.give (T := []) H rfl)) ?_
 rintro vq w5z ⟨r2, q1, q2, hr6z, hvq, H2_⟩
 subst hr6z
 subst vq
 try dsimp only at hM
 replace H : St w w5z [cBlk b_s [v_s_bytes, I q1, I q2] 158] R := H.back H2_ rfl
 clear H2_
 obtain ⟨sd7z, hM⟩ := M.e_grd hM
 simp only [Bool.and_eq_true, decide_eq_true_eq] at sd7z
 refine s_val (x_ari (a := lo) (b := r2) (r := lo + r2) rfl rfl rfl (by omega)) <| sA (I (lo + r2)) rfl <| s_nil ?_
 refine W.ret ?_
 have hr_ := M.e_pure hM
 exact ⟨_, resE_tmp rfl, ⟨(lo + r2), q1, q2, hr_, rfl, H⟩⟩

def m_nilometerlaw13_Made_b2 (s_bytes : List UInt8) (s8 : Nat) : (Int × Int × Int × (List Int)) → M ((Int × Int × Int × (List Int)) ⊕ (Int × Int × (List Int) × (List Int))) := fun (s2, s3, k, l) =>
  bif (((decide (0 ≤ k)) && (decide ((l.length : Int) < 5))) && (decide (2 < (s8 : Int)))) then (
  M.bind (m_nilometerkit_Stream_Next s_bytes s2 s3 3) fun (r5, q14, q24) =>
  bif r5 == 0 then (
  M.grd (decide ((l.length + ([(k : Int)]).length) * 8 ≤ 140737488355328)) <|
  M.grd (decide ((-9223372036854775808 : Int) ≤ (k - 1)) && decide ((k - 1) ≤ (9223372036854775807 : Int))) <|
  M.pure (.inl (q14, q24, k - 1, l ++ ([(k : Int)]))))
  else (
  M.grd (decide ((-9223372036854775808 : Int) ≤ (k - 1)) && decide ((k - 1) ≤ (9223372036854775807 : Int))) <|
  M.pure (.inl (q14, q24, k - 1, l))))
  else (
  M.pure (.inr (s2, s3, l, l)))
def m_nilometerlaw13_Made_b3 (s_bytes : List UInt8) (r2 : Int) : (Int × Int × Nat × (List Work)) → M ((Int × Int × Nat × (List Work)) ⊕ ((List Work) × (List Work) × Int × Int)) := fun (s6, s7, s8, l4) =>
  bif decide ((s8 : Int) < r2) then (
  M.bind (m_nilometerkit_Stream_Next s_bytes s6 s7 2000) fun (r3, q12, q22) =>
  M.bind (m_nilometerkit_Stream_Next s_bytes q12 q22 60) fun (r4, q13, q23) =>
  M.grd (decide ((-9223372036854775808 : Int) ≤ ((s8 : Int) - 1)) && decide (((s8 : Int) - 1) ≤ (9223372036854775807 : Int))) <|
  M.bind (M.iter (m_nilometerlaw13_Made_b2 s_bytes s8) (q13, q23, (s8 : Int) - 1, [])) fun (s4, s5, l2, l3) =>
  M.grd (decide ((l4.length + ([(⟨l3, (r3 : Int), (r4 : Int)⟩ : Work)]).length) * 40 ≤ 140737488355328)) <|
  M.grd (decide ((-9223372036854775808 : Int) ≤ ((s8 : Int) + 1)) && decide (((s8 : Int) + 1) ≤ (9223372036854775807 : Int))) <|
  M.pure (.inl (s4, s5, s8 + 1, l4 ++ ([(⟨l3, (r3 : Int), (r4 : Int)⟩ : Work)]))))
  else (
  M.pure (.inr (l4, l4, s6, s7)))
def m_nilometerlaw13_Made (s_bytes : List UInt8) (s_used : Int) (s_mix : Int) (most : Int) : M ((List Work) × Int × Int) :=
  M.bind (m_nilometerkit_Stream_Within s_bytes s_used s_mix 2 most) fun (r2, q1, q2) =>
  M.bind (M.iter (m_nilometerlaw13_Made_b3 s_bytes r2) (q1, q2, 0, [])) fun (l5, l6, s9, s10) =>
  M.pure (l6, s9, s10)
theorem nilometerlaw13_Made_ok {R : List Chunk} {b_s : Nat} {C_s_bytes : Cells} {v_s_bytes : Value} (s_bytes : List UInt8) (s_used : Int) (s_mix : Int) (most : Int) (hC_s_bytes : Reads R C_s_bytes) (hs_s_bytes : Sl C_s_bytes v_s_bytes s_bytes) {r : ((List Work) × Int × Int)} (hM : (m_nilometerlaw13_Made s_bytes s_used s_mix most).Ends r) (w : World) (H : St w w [cBlk b_s [v_s_bytes, I s_used, I s_mix] 158] R) : Ret Try.prog 41 #[Pz b_s, I most] w fun v w' => ∃ (y0 : List Work) (y1 : Int) (y2 : Int) (u0 : Value) (rr1 : List (Raw 2)) (Bs2 : Base), (y0, y1, y2) = r ∧ v = u0 ∧ St w w' [cOwn (α := Raw 2) 60 u0 rr1, cRo Bs2, cBlk b_s [v_s_bytes, I y1, I y2] 158] R ∧ RepR (α := Work) Bs2.cells rr1 y0 := by
 refine ret_of_W Try.func41 rfl rfl rfl ?_
 refine W.seq <| W.region rfl <| sA (.slice none 0 0) rfl <| s_nil <| W.seq <| W.region rfl <| sA (.slice none 0 0) rfl <| s_nil <| W.seq <| W.seq <| W.region rfl <| sM (Pz b_s) rfl ?_
 refine sM (I most) rfl ?_
 obtain ⟨r2z, hx1z, hM⟩ := M.e_bind hM
 refine s_call cf43 [Pz b_s, I 2, I most] rfl (nilometerkit_Stream_Within_ok s_bytes s_used s_mix 2 most (hC_s_bytes.app _) hs_s_bytes hx1z _ (St.give (T := []) H rfl)) ?_
 rintro vq w3z ⟨r2, q1, q2, hr4z, hvq, H2_⟩
 subst hr4z
 subst vq
 try dsimp only at hM
 replace H : St w w3z [cBlk b_s [v_s_bytes, I q1, I q2] 158] R := H.back H2_ rfl
 clear H2_
 refine sM (I 0) rfl <| s_nil <| W.block ?_
 obtain ⟨Bs_12, H⟩ := H.emptyE
 replace H : St w w3z [cOwn (α := Raw 2) 60 (.slice none 0 0) ([]), cRo Bs_12, cBlk b_s [v_s_bytes, I q1, I q2] 158] R := H.nilOwn (α := Raw 2) 60
 have hr5z : RepR (α := Work) (n := 2) Bs_12.cells [] [] := .nil
 obtain ⟨ex6z, hi7z, hk8z⟩ := M.e_bind hM
 obtain ⟨m0_, hi7z⟩ := M.e_iter hi7z
 refine W.loop (fun m σ W => ∃ (s6 : Int) (s7 : Int) (s8 : Nat) (l4 : List Work) (v_l4 : Value) (rw_l4 : List (Raw 2)) (B_l4 : Base) (ρ : Env), σ = upds ρ [(0, Pz b_s), (5, v_l4), (11, I r2), (12, I (s8 : Int))] ∧ M.iterN (m_nilometerlaw13_Made_b3 s_bytes r2) m (s6, s7, s8, l4) = some ex6z ∧ St w W [cOwn (α := Raw 2) 60 v_l4 rw_l4, cRo B_l4, cBlk b_s [v_s_bytes, I s6, I s7] 158] R ∧ RepR (α := Work) B_l4.cells rw_l4 l4) ?_ ?_
 ·exact ⟨_, q1, q2, 0, [], (.slice none 0 0), [], Bs_12, _, upds_of _ _ ⟨rfl, rfl, rfl, rfl, trivial⟩, hi7z, H, hr5z⟩
 rintro m11z σ w9z ⟨s6, s7, s8, l4, v_l4, rw_l4, B_l4, ρ, rfl, hI10z, H, hr_l4⟩
 obtain ⟨m12z, lt13z, x14z, hM, hN15z⟩ := M.e_iterN hI10z
 simp only [m_nilometerlaw13_Made_b3] at hM
 clear hI10z
 refine W.seq <| W.region rfl <| sC (s8 : Int) r2 (decide ((s8 : Int) < r2)) rfl rfl rfl <| s_nil <| W.seq ?_
 refine W.cond (decide ((s8 : Int) < r2)) rfl (fun c16z => ?_) (fun c16z => ?_)
 ·replace hM := M.e_t hM c16z
  simp only [qz1, qz2, qz3, qz4, qz5, qz6, ne_eq, qz7] at c16z
  refine W.skip <| W.seq <| W.block <| W.seq <| W.region rfl <| sM (I (s8 : Int)) rfl <| sA (I (s8 : Int)) rfl <| s_nil <| W.seq <| W.region rfl <| sM (Pz b_s) rfl ?_
  obtain ⟨r18z, hx17z, hM⟩ := M.e_bind hM
  refine s_call cf44 [Pz b_s, I 2000] rfl (nilometerkit_Stream_Next_ok s_bytes s6 s7 2000 (hC_s_bytes.app _) hs_s_bytes hx17z _ (St.give (L := [cBlk b_s [v_s_bytes, I s6, I s7] 158, cOwn (α := Raw 2) 60 v_l4 rw_l4, cRo B_l4]) (A := [cBlk b_s [v_s_bytes, I s6, I s7] 158]) (T := [cOwn (α := Raw 2) 60 v_l4 rw_l4, cRo B_l4]) (H.pick [2, 0, 1] (by decide) rfl) rfl)) ?_
  rintro vq w19z ⟨r3, q12, q22, hr20z, hvq, H2_⟩
  subst hr20z
  subst vq
  try dsimp only at hM
  replace H : St w w19z [cBlk b_s [v_s_bytes, I q12, I q22] 158, cOwn (α := Raw 2) 60 v_l4 rw_l4, cRo B_l4] R := H.pick [2, 0, 1] (by decide) rfl |>.back H2_ rfl
  clear H2_
  refine sM (Pz b_s) rfl ?_
  obtain ⟨r22z, hx21z, hM⟩ := M.e_bind hM
  refine s_call cf44 [Pz b_s, I 60] rfl (nilometerkit_Stream_Next_ok s_bytes q12 q22 60 (hC_s_bytes.app _) hs_s_bytes hx21z _ (St.give (T := [cOwn (α := Raw 2) 60 v_l4 rw_l4, cRo B_l4]) H rfl)) ?_
  rintro vq w23z ⟨r4, q13, q23, hr24z, hvq, H2_⟩
  subst hr24z
  subst vq
  try dsimp only at hM
  replace H : St w w23z [cBlk b_s [v_s_bytes, I q13, I q23] 158, cOwn (α := Raw 2) 60 v_l4 rw_l4, cRo B_l4] R := H.back H2_ rfl
  clear H2_
  refine s_val (x_bld (ps := [(1, I r3), (2, I r4)]) (zs := [.slice none 0 0, I 0, I 0]) (L' := [.slice none 0 0, I r3, I r4]) rfl Try.underlying60 Al60 rfl (Bd60 Try.underlying60) (.cons (cs := [I r3]) rfl rfl rfl rfl rfl <| .cons (cs := [I r4]) rfl rfl rfl rfl rfl <| .nil)) ?_
  refine t_alloc (cs := [.slice none 0 0, I 0, I 0]) H Al60 rfl ?_
  intro b_1 w25z H
  refine t_st (k := 0) (b := b_1) (off := 0) (cs := [.slice none 0 0, I 0, I 0]) (vs := [.slice none 0 0, I r3, I r4]) (cs' := [.slice none 0 0, I r3, I r4]) (v := .agg #[.slice none 0 0, I r3, I r4]) (L' := [cBlk b_1 [.slice none 0 0, I r3, I r4] 60, cBlk b_s [v_s_bytes, I q13, I q23] 158, cOwn (α := Raw 2) 60 v_l4 rw_l4, cRo B_l4]) H rfl rfl rfl Sz60 rfl rfl rfl rfl rfl rfl ?_
  intro w26z H
  refine s_nil <| W.seq <| W.seq <| W.region rfl <| sM (I (s8 : Int)) rfl ?_
  obtain ⟨sd27z, hM⟩ := M.e_grd hM
  simp only [Bool.and_eq_true, decide_eq_true_eq] at sd27z
  refine s_val (x_ari (a := (s8 : Int)) (b := 1) (r := (s8 : Int) - 1) rfl rfl rfl (by omega)) <| sA (I ((s8 : Int) - 1)) rfl <| s_nil <| W.block ?_
  replace H : St w w26z [cOwn (α := Int) 3 (.slice none 0 0) ([]), cBlk b_1 [.slice none 0 0, I r3, I r4] 60, cBlk b_s [v_s_bytes, I q13, I q23] 158, cOwn (α := Raw 2) 60 v_l4 rw_l4, cRo B_l4] R := H.nilOwn (α := Int) 3
  obtain ⟨ex28z, hi29z, hk30z⟩ := M.e_bind hM
  obtain ⟨m0_, hi29z⟩ := M.e_iter hi29z
  refine W.loop (fun m σ W => ∃ (s2 : Int) (s3 : Int) (k : Int) (l : List Int) (v_l : Value) (ρ : Env), σ = upds ρ [(0, Pz b_s), (5, v_l4), (6, I (s8 : Int)), (7, Pz b_1), (8, I k), (11, I r2), (12, I (s8 : Int))] ∧ M.iterN (m_nilometerlaw13_Made_b2 s_bytes s8) m (s2, s3, k, l) = some ex28z ∧ St w W [cOwn (α := Int) 3 v_l l, cBlk b_1 [v_l, I r3, I r4] 60, cBlk b_s [v_s_bytes, I s2, I s3] 158, cOwn (α := Raw 2) 60 v_l4 rw_l4, cRo B_l4] R) ?_ ?_
  ·exact ⟨_, q13, q23, (s8 : Int) - 1, [], (.slice none 0 0), _, upds_of _ _ ⟨rfl, rfl, rfl, rfl, rfl, rfl, rfl, trivial⟩, hi29z, H⟩
  rintro m33z σ w31z ⟨s2, s3, k, l, v_l, ρ, rfl, hI32z, H⟩
  obtain ⟨m34z, lt35z, x36z, hM, hN37z⟩ := M.e_iterN hI32z
  simp only [m_nilometerlaw13_Made_b2] at hM
  clear hI32z
  refine W.seq <| W.seq <| W.region rfl <| sM (I k) rfl <| sC k 0 (decide (0 ≤ k)) rfl rfl rfl <| sM (B (decide (0 ≤ k))) rfl <| g_val (decide (0 ≤ k)) (gy_t rfl) (fun hg => x_fa (a := Pz b_1) (v := Pz b_1) rfl (fa_blk (o := 0) Fd60_0 Sz34)) <| g_val (decide (0 ≤ k)) (gy_t rfl) (fun hg => x_ld (p := Pz b_1) (v := v_l) (gd_of (c := decide (0 ≤ k)) hg (Pz b_1)) (ldb_sc Sc34 (H.blk (k := 1) rfl) rfl)) <| g_val (decide (0 ≤ k)) (gy_t rfl) (fun hg => x_lenS T34.und (gd_of (c := decide (0 ≤ k)) hg (v_l)) (ownSl (H.get (k := 0) rfl))) <| g_val (decide (0 ≤ k)) (gy_t rfl) (fun hg => x_cmp (kd := .i64) (a := (l.length : Int)) (b := 5) (r := decide ((l.length : Int) < 5)) (gd_of (c := decide (0 ≤ k)) hg (I (l.length : Int))) rfl rfl) <| s_val (x_pand (b := decide (0 ≤ k)) (r := decide ((l.length : Int) < 5)) rfl (fun hb => gd_of (c := decide (0 ≤ k)) (by simp_all) (B (decide ((l.length : Int) < 5)))) rfl) <| sM (B ((decide (0 ≤ k)) && (decide ((l.length : Int) < 5)))) rfl ?_
  refine g_val ((decide (0 ≤ k)) && (decide ((l.length : Int) < 5))) (gy_t rfl) (fun hg => x_mv (v := I (s8 : Int)) rfl) <| g_val ((decide (0 ≤ k)) && (decide ((l.length : Int) < 5))) (gy_t rfl) (fun hg => x_cmp (kd := .i64) (a := (s8 : Int)) (b := 2) (r := decide (2 < (s8 : Int))) (gd_of (c := ((decide (0 ≤ k)) && (decide ((l.length : Int) < 5)))) hg (I (s8 : Int))) rfl rfl) <| s_val (x_pand (b := ((decide (0 ≤ k)) && (decide ((l.length : Int) < 5)))) (r := decide (2 < (s8 : Int))) rfl (fun hb => gd_of (c := ((decide (0 ≤ k)) && (decide ((l.length : Int) < 5)))) (by simp_all) (B (decide (2 < (s8 : Int))))) rfl) <| s_nil ?_
  refine W.cond (((decide (0 ≤ k)) && (decide ((l.length : Int) < 5))) && (decide (2 < (s8 : Int)))) rfl (fun c39z => ?_) (fun c39z => ?_)
  ·replace hM := M.e_t hM c39z
   refine W.skip <| W.seq <| W.block <| W.seq <| W.region rfl <| sM (Pz b_s) rfl ?_
   obtain ⟨r41z, hx40z, hM⟩ := M.e_bind hM
   refine s_call cf44 [Pz b_s, I 3] rfl (nilometerkit_Stream_Next_ok s_bytes s2 s3 3 (hC_s_bytes.app _) hs_s_bytes hx40z _ (St.give (L := [cBlk b_s [v_s_bytes, I s2, I s3] 158, cOwn (α := Int) 3 v_l l, cBlk b_1 [v_l, I r3, I r4] 60, cOwn (α := Raw 2) 60 v_l4 rw_l4, cRo B_l4]) (A := [cBlk b_s [v_s_bytes, I s2, I s3] 158]) (T := [cOwn (α := Int) 3 v_l l, cBlk b_1 [v_l, I r3, I r4] 60, cOwn (α := Raw 2) 60 v_l4 rw_l4, cRo B_l4]) (H.pick [2, 0, 1, 3, 4] (by decide) rfl) rfl)) ?_
   rintro vq w42z ⟨r5, q14, q24, hr43z, hvq, H2_⟩
   subst hr43z
   subst vq
   try dsimp only at hM
   replace H : St w w42z [cBlk b_s [v_s_bytes, I q14, I q24] 158, cOwn (α := Int) 3 v_l l, cBlk b_1 [v_l, I r3, I r4] 60, cOwn (α := Raw 2) 60 v_l4 rw_l4, cRo B_l4] R := H.pick [2, 0, 1, 3, 4] (by decide) rfl |>.back H2_ rfl
   clear H2_
   refine sC r5 0 (r5 == 0) rfl rfl rfl <| s_nil ?_
   refine W.cond (r5 == 0) rfl (fun c44z => ?_) (fun c44z => ?_)
   ·replace hM := M.e_t hM c44z
    simp only [qz1, qz2, qz3, qz4, qz5, qz6, ne_eq, qz7] at c44z
    refine W.region rfl <| s_val (x_fa (a := Pz b_1) (v := Pz b_1) rfl (fa_blk (o := 0) Fd60_0 Sz34)) <| s_val (x_ld (p := Pz b_1) (v := v_l) rfl (ldb_sc Sc34 (H.blk (k := 2) rfl) rfl)) <| sM (I k) rfl ?_
    refine t_bs (α := Int) T34 [I k] [(k : Int)] H rfl (.cons rfl (Flat.rep_enc _ (k : Int)) <| .nil) rfl rfl rfl ?_
    intro v45z w46z H
    obtain ⟨sd47z, hM⟩ := M.e_grd hM
    simp only [Bool.and_eq_true, decide_eq_true_eq] at sd47z
    refine t_app (α := Int) (k := 2) (l := l) (l2 := [(k : Int)]) (l' := l ++ ([(k : Int)])) (vy := v45z) T34 rfl H rfl rfl rfl (ownSl (H.get (k := 0) rfl)) (ownLe _ (H.get (k := 0) rfl)) (rfl) (by first | omega | (simp only [List.length_nil] at *; omega)) ?_
    intro v48z w49z H
    replace H : St w w49z [cOwn (α := Int) 3 v45z ([(k : Int)]), cBlk b_s [v_s_bytes, I q14, I q24] 158, cOwn (α := Int) 3 v48z (l ++ ([(k : Int)])), cBlk b_1 [v_l, I r3, I r4] 60, cOwn (α := Raw 2) 60 v_l4 rw_l4, cRo B_l4] R := H
    refine s_val (x_fa (a := Pz b_1) (v := Pz b_1) rfl (fa_blk (o := 0) Fd60_0 Sz34)) ?_
    refine t_st (k := 3) (b := b_1) (off := 0) (cs := [v_l, I r3, I r4]) (vs := [v48z]) (cs' := [v48z, I r3, I r4]) (v := v48z) (L' := [cOwn (α := Int) 3 v45z ([(k : Int)]), cBlk b_s [v_s_bytes, I q14, I q24] 158, cOwn (α := Int) 3 v48z (l ++ ([(k : Int)])), cBlk b_1 [v48z, I r3, I r4] 60, cOwn (α := Raw 2) 60 v_l4 rw_l4, cRo B_l4]) H rfl rfl rfl Sz34 (Sl.cells (ownSl (H.get (k := 2) rfl))) rfl rfl (by simp only [List.all_cons, List.all_nil, Bool.true_and, Bool.and_true, Sl.oc (ownSl (H.get (k := 2) rfl))]; try rfl) rfl rfl ?_
    intro w50z H
    refine s_nil <| W.region rfl <| sM (I k) rfl ?_
    obtain ⟨sd51z, hM⟩ := M.e_grd hM
    simp only [Bool.and_eq_true, decide_eq_true_eq] at sd51z
    refine s_val (x_ari (a := k) (b := 1) (r := k - 1) rfl rfl rfl (by omega)) <| sA (I (k - 1)) rfl <| s_nil ?_
    exact ⟨m34z, lt35z, q14, q24, k - 1, l ++ ([(k : Int)]), v48z, _, upds_of _ _ ⟨rfl, rfl, rfl, rfl, rfl, rfl, rfl, trivial⟩, M.e_inl hM hN37z, (H.pick [2, 3, 1, 4, 5] (by decide) rfl)⟩
   replace hM := M.e_f hM c44z
   simp only [qz1, qz2, qz3, qz4, qz5, qz6, ne_eq, qz7] at c44z
   refine W.skip <| W.region rfl <| sM (I k) rfl ?_
   obtain ⟨sd52z, hM⟩ := M.e_grd hM
   simp only [Bool.and_eq_true, decide_eq_true_eq] at sd52z
   refine s_val (x_ari (a := k) (b := 1) (r := k - 1) rfl rfl rfl (by omega)) <| sA (I (k - 1)) rfl <| s_nil ?_
   exact ⟨m34z, lt35z, q14, q24, k - 1, l, v_l, _, upds_of _ _ ⟨rfl, rfl, rfl, rfl, rfl, rfl, rfl, trivial⟩, M.e_inl hM hN37z, (H.pick [1, 2, 0, 3, 4] (by decide) rfl)⟩
  replace hM := M.e_f hM c39z
  refine W.exit ?_
  have hX53z := M.e_inr hM hN37z
  subst hX53z
  replace hM := hk30z
  try dsimp only at hM
  refine W.region rfl <| sM v_l4 rfl <| s_val (x_ld (p := Pz b_1) (v := .agg #[v_l, I r3, I r4]) rfl (ldb_ag (ds := [v_l, I r3, I r4]) Ag60 Sz60 (H.blk (k := 1) rfl) rfl rfl)) ?_
  obtain ⟨Bs_5, H⟩ := H.emptyE
  obtain ⟨Bs_6, H, hs55z⟩ := H.freezeE (k := 1) rfl
  replace H : St w w31z [cRo Bs_5, cRo Bs_6, cBlk b_1 [v_l, I r3, I r4] 60, cBlk b_s [v_s_bytes, I s2, I s3] 158, cOwn (α := Raw 2) 60 v_l4 rw_l4, cRo B_l4] R := H
  have hq54z := hs55z
  obtain ⟨Bs_7, H, le56z, le57z⟩ := H.joinE (i := 0) (j := 1) rfl rfl
  replace hq54z := hq54z.mono le57z
  obtain ⟨rw58z, hrw_rw58z⟩ : ∃ r : Raw 2, r.cs = [v_l, I r3, I r4] := ⟨Raw.of [v_l, I r3, I r4] rfl (by simp only [List.all_cons, List.all_nil, Bool.true_and, Bool.and_true, Sl.oc hq54z]; try rfl), rfl⟩
  have hr59z : RepR (α := Work) Bs_7.cells [rw58z] [(⟨l, (r3 : Int), (r4 : Int)⟩ : Work)] := .cons (by rw [hrw_rw58z]; exact ⟨_, rfl, hq54z⟩) <| .nil
  refine t_bs (α := Raw 2) T22 [.agg #[v_l, I r3, I r4]] [rw58z] H rfl (.cons (by rw [show (Flat.enc rw58z : List Value) = rw58z.cs from rfl, hrw_rw58z]; rfl) (Flat.rep_enc _ _) <| .nil) rfl rfl rfl ?_
  intro v60z w61z H
  replace H : St w w61z [cOwn (α := Raw 2) 60 v60z ([rw58z]), cRo Bs_7, cRo Bs_5, cRo Bs_6, cBlk b_1 [v_l, I r3, I r4] 60, cBlk b_s [v_s_bytes, I s2, I s3] 158, cOwn (α := Raw 2) 60 v_l4 rw_l4, cRo B_l4] R := H
  obtain ⟨sd62z, hM⟩ := M.e_grd hM
  simp only [Bool.and_eq_true, decide_eq_true_eq] at sd62z
  have hr63z := hr59z
  obtain ⟨Bs_11, H, le64z, le65z⟩ := H.joinE (i := 7) (j := 1) rfl rfl
  replace hr_l4 := hr_l4.mono le64z
  replace hr63z := hr63z.mono le65z
  have hr68z := hr_l4.app hr63z
  refine t_app (α := Raw 2) (k := 7) (l := rw_l4) (l2 := [rw58z]) (l' := rw_l4 ++ ([rw58z])) (vy := v60z) T22 rfl H rfl rfl rfl (ownSl (H.get (k := 1) rfl)) (ownLe _ (H.get (k := 1) rfl)) (rfl) (by have a_ := hr_l4.len; have b_ := hr63z.len; simp only [List.length_nil] at *; first | omega | (rw [a_, b_]; omega)) ?_
  intro v66z w67z H
  replace H : St w w67z [cRo Bs_11, cOwn (α := Raw 2) 60 v60z ([rw58z]), cRo Bs_7, cRo Bs_5, cRo Bs_6, cBlk b_1 [v_l, I r3, I r4] 60, cBlk b_s [v_s_bytes, I s2, I s3] 158, cOwn (α := Raw 2) 60 v66z (rw_l4 ++ ([rw58z])), cRo B_l4] R := H
  refine sA v66z rfl <| s_nil <| W.region rfl ?_
  obtain ⟨sd69z, hM⟩ := M.e_grd hM
  simp only [Bool.and_eq_true, decide_eq_true_eq] at sd69z
  refine s_val (x_ari (a := (s8 : Int)) (b := 1) (r := (s8 : Int) + 1) rfl rfl rfl (by omega)) <| sM (I ((s8 : Int) + 1)) rfl <| s_nil ?_
  exact ⟨m12z, lt13z, s2, s3, s8 + 1, l4 ++ ([(⟨l, (r3 : Int), (r4 : Int)⟩ : Work)]), v66z, rw_l4 ++ ([rw58z]), Bs_11, _, upds_of _ _ ⟨rfl, rfl, rfl, rfl, trivial⟩, M.e_inl hM hN15z, (H.pick [7, 0, 6] (by decide) rfl), hr68z⟩
 replace hM := M.e_f hM c16z
 simp only [qz1, qz2, qz3, qz4, qz5, qz6, ne_eq, qz7] at c16z
 refine W.exit ?_
 have hX70z := M.e_inr hM hN15z
 subst hX70z
 replace hM := hk8z
 try dsimp only at hM
 refine W.seq <| W.region rfl <| sM v_l4 rfl <| sA v_l4 rfl <| s_nil ?_
 refine W.ret ?_
 have hr_ := M.e_pure hM
 exact ⟨_, resE_tmp rfl, ⟨l4, s6, s7, v_l4, rw_l4, B_l4, hr_, rfl, H, hr_l4⟩⟩

def m_nilometerlaw13_Noted_b2 (s_bytes : List UInt8) (s7 : Nat) (r2 : Int) : (Int × Int × Nat × (List Note)) → M ((Int × Int × Nat × (List Note)) ⊕ (Int × Int × (List Note) × (List Note))) := fun (s2, s3, s4, l4) =>
  bif decide ((s4 : Int) < r2) then (
  M.bind (m_nilometerkit_Stream_Next s_bytes s2 s3 3) fun (r4, q13, q23) =>
  bif r4 == 0 then (
  M.bind (m_nilometerkit_Stream_Next s_bytes q13 q23 2000) fun (r5, q14, q24) =>
  M.grd (decide ((l4.length + ([(⟨(s7 : Int), (s4 : Int), (r5 : Int)⟩ : Note)]).length) * 24 ≤ 140737488355328)) <|
  M.grd (decide ((-9223372036854775808 : Int) ≤ ((s4 : Int) + 1)) && decide (((s4 : Int) + 1) ≤ (9223372036854775807 : Int))) <|
  M.pure (.inl (q14, q24, s4 + 1, l4 ++ ([(⟨(s7 : Int), (s4 : Int), (r5 : Int)⟩ : Note)]))))
  else (
  M.grd (decide ((-9223372036854775808 : Int) ≤ ((s4 : Int) + 1)) && decide (((s4 : Int) + 1) ≤ (9223372036854775807 : Int))) <|
  M.pure (.inl (q13, q23, s4 + 1, l4))))
  else (
  M.pure (.inr (s2, s3, l4, l4)))
def m_nilometerlaw13_Noted_b3 (s_bytes : List UInt8) (w_ : List Work) : (Nat × Int × Int × (List Note) × (List Note)) → M ((Nat × Int × Int × (List Note) × (List Note)) ⊕ ((List Note) × (List Note) × (List Note) × (List Note) × Int × Int)) := fun (s7, s8, s9, l6, l7) =>
  bif decide ((s7 : Int) < (w_.length : Int)) then (
  M.grd (decide ((s7 : Int) < (w_.length : Int))) <|
  bif decide (0 < (((w_.getD s7 default).of).length : Int)) then (
  M.pure (.inl (s7 + 1, s8, s9, l6, l7)))
  else (
  M.bind (m_nilometerkit_Stream_Next s_bytes s8 s9 9) fun (r2, q1, q2) =>
  M.bind (m_nilometerkit_Stream_Next s_bytes q1 q2 2000) fun (r3, q12, q22) =>
  M.grd (decide ((l6.length + ([(⟨(s7 : Int), (r2 : Int), (r3 : Int)⟩ : Note)]).length) * 24 ≤ 140737488355328)) <|
  M.bind (M.iter (m_nilometerlaw13_Noted_b2 s_bytes s7 r2) (q12, q22, 0, l7)) fun (s5, s6, l2, l5) =>
  M.pure (.inl (s7 + 1, s5, s6, l6 ++ ([(⟨(s7 : Int), (r2 : Int), (r3 : Int)⟩ : Note)]), l5))))
  else (
  M.pure (.inr (l6, l7, l7, l6, s8, s9)))
def m_nilometerlaw13_Noted (s_bytes : List UInt8) (s_used : Int) (s_mix : Int) (w_ : List Work) : M ((List Note) × Int × Int) :=
  M.bind (M.iter (m_nilometerlaw13_Noted_b3 s_bytes w_) (0, s_used, s_mix, [], [])) fun (l8, l9, l10, l11, s10, s11) =>
  M.grd (decide ((l11.length + l10.length) * 24 ≤ 140737488355328)) <|
  M.pure ((l11 ++ l10), s10, s11)
theorem nilometerlaw13_Noted_ok {R : List Chunk} {b_s : Nat} {C_s_bytes : Cells} {v_s_bytes : Value} {C_w_ : Cells} {v_w_ : Value} (s_bytes : List UInt8) (s_used : Int) (s_mix : Int) (w_ : List Work) (hC_s_bytes : Reads R C_s_bytes) (hs_s_bytes : Sl C_s_bytes v_s_bytes s_bytes) (hC_w_ : Reads R C_w_) (hs_w_ : Sl C_w_ v_w_ w_) {r : ((List Note) × Int × Int)} (hM : (m_nilometerlaw13_Noted s_bytes s_used s_mix w_).Ends r) (w : World) (H : St w w [cBlk b_s [v_s_bytes, I s_used, I s_mix] 158] R) : Ret Try.prog 42 #[Pz b_s, v_w_] w fun v w' => ∃ (y0 : List Note) (y1 : Int) (y2 : Int) (u0 : Value), (y0, y1, y2) = r ∧ v = u0 ∧ St w w' [cOwn (α := Note) 30 u0 y0, cBlk b_s [v_s_bytes, I y1, I y2] 158] R := by
 refine ret_of_W Try.func42 rfl rfl rfl ?_
 refine W.seq <| W.region rfl <| sA (.slice none 0 0) rfl <| s_nil <| W.seq <| W.region rfl <| sA (.slice none 0 0) rfl <| sA (.slice none 0 0) rfl <| s_nil <| W.seq <| W.seq <| W.region rfl ?_
 refine sM v_w_ rfl ?_
 have hl1z := (hs_w_).len_le
 refine s_val (x_lenS T22.und rfl hs_w_) <| sM (I 0) rfl <| s_nil <| W.block ?_
 replace H : St w w [cOwn (α := Note) 30 (.slice none 0 0) ([]), cBlk b_s [v_s_bytes, I s_used, I s_mix] 158] R := H.nilOwn (α := Note) 30
 replace H : St w w [cOwn (α := Note) 30 (.slice none 0 0) ([]), cOwn (α := Note) 30 (.slice none 0 0) ([]), cBlk b_s [v_s_bytes, I s_used, I s_mix] 158] R := H.nilOwn (α := Note) 30
 obtain ⟨ex2z, hi3z, hk4z⟩ := M.e_bind hM
 obtain ⟨m0_, hi3z⟩ := M.e_iter hi3z
 refine W.loop (fun m σ W => ∃ (s7 : Nat) (s8 : Int) (s9 : Int) (l6 : List Note) (l7 : List Note) (v_l6 : Value) (v_l7 : Value) (ρ : Env), σ = upds ρ [(0, Pz b_s), (5, v_l6), (6, v_l7), (11, v_w_), (12, I (w_.length : Int)), (13, I (s7 : Int))] ∧ M.iterN (m_nilometerlaw13_Noted_b3 s_bytes w_) m (s7, s8, s9, l6, l7) = some ex2z ∧ St w W [cOwn (α := Note) 30 v_l7 l7, cOwn (α := Note) 30 v_l6 l6, cBlk b_s [v_s_bytes, I s8, I s9] 158] R) ?_ ?_
 ·exact ⟨_, 0, s_used, s_mix, [], [], (.slice none 0 0), (.slice none 0 0), _, upds_of _ _ ⟨rfl, rfl, rfl, rfl, rfl, rfl, trivial⟩, hi3z, H⟩
 rintro m7z σ w5z ⟨s7, s8, s9, l6, l7, v_l6, v_l7, ρ, rfl, hI6z, H⟩
 obtain ⟨m8z, lt9z, x10z, hM, hN11z⟩ := M.e_iterN hI6z
 simp only [m_nilometerlaw13_Noted_b3] at hM
 clear hI6z
 refine W.seq <| W.region rfl <| sC (s7 : Int) (w_.length : Int) (decide ((s7 : Int) < (w_.length : Int))) rfl rfl rfl <| s_nil <| W.seq ?_
 refine W.cond (decide ((s7 : Int) < (w_.length : Int))) rfl (fun c12z => ?_) (fun c12z => ?_)
 ·replace hM := M.e_t hM c12z
  simp only [qz1, qz2, qz3, qz4, qz5, qz6, ne_eq, qz7] at c12z
  refine W.skip <| W.seq <| W.block <| W.seq <| W.region rfl <| sM (I (s7 : Int)) rfl ?_
  obtain ⟨sd13z, hM⟩ := M.e_grd hM
  simp only [Bool.and_eq_true, decide_eq_true_eq] at sd13z
  refine s_val (x_ix (a := v_w_) (b := I (s7 : Int)) (v := vat v_w_ 3 (Int.toNat (s7 : Int))) rfl rfl (Sl.ix (α := Work) T22.und T22.size hs_w_ (by omega) (by omega))) ?_
  obtain ⟨u14z, ha16z, hs15z⟩ := Work_atA hs_w_ (i := (s7 : Int)) (by omega) (by omega)
  replace hs15z : Sl _ u14z (w_.getD s7 default).of := hs15z
  have hl_hs15z := hs15z.len_le
  refine s_val (x_ld (p := vat v_w_ 3 (Int.toNat (s7 : Int))) (v := .agg #[u14z, I ((w_.getD s7 default).base), I ((w_.getD s7 default).minutes)]) rfl (ld_ag Ag60 Sz60 (At.mono ha16z (hC_w_.at H)))) ?_
  refine t_alloc (cs := [.slice none 0 0, I 0, I 0]) H Al60 rfl ?_
  intro b_1 w17z H
  refine sA (I (s7 : Int)) rfl ?_
  refine t_st (k := 0) (b := b_1) (off := 0) (cs := [.slice none 0 0, I 0, I 0]) (vs := [u14z, I ((w_.getD s7 default).base), I ((w_.getD s7 default).minutes)]) (cs' := [u14z, I ((w_.getD s7 default).base), I ((w_.getD s7 default).minutes)]) (v := .agg #[u14z, I ((w_.getD s7 default).base), I ((w_.getD s7 default).minutes)]) (L' := [cBlk b_1 [u14z, I ((w_.getD s7 default).base), I ((w_.getD s7 default).minutes)] 60, cOwn (α := Note) 30 v_l7 l7, cOwn (α := Note) 30 v_l6 l6, cBlk b_s [v_s_bytes, I s8, I s9] 158]) H rfl rfl rfl Sz60 rfl rfl rfl (by simp only [List.all_cons, List.all_nil, Bool.true_and, Bool.and_true, Sl.oc hs15z]; try rfl) rfl rfl ?_
  intro w18z H
  refine s_nil <| W.seq <| W.seq <| W.region rfl <| s_val (x_fa (a := Pz b_1) (v := Pz b_1) rfl (fa_blk (o := 0) Fd60_0 Sz34)) <| s_val (x_ld (p := Pz b_1) (v := u14z) rfl (ldb_sc Sc34 (H.blk (k := 0) rfl) rfl)) ?_
  have hl19z := (hs15z).len_le
  refine s_val (x_lenS T34.und rfl hs15z) <| sC (((w_.getD s7 default).of).length : Int) 0 (decide (0 < (((w_.getD s7 default).of).length : Int))) rfl rfl rfl <| s_nil ?_
  refine W.cond (decide (0 < (((w_.getD s7 default).of).length : Int))) rfl (fun c20z => ?_) (fun c20z => ?_)
  ·replace hM := M.e_t hM c20z
   simp only [qz1, qz2, qz3, qz4, qz5, qz6, ne_eq, qz7] at c20z
   refine W.exit ?_
   refine W.region rfl <| s_val (x_ari (a := (s7 : Int)) (b := 1) (r := (s7 : Int) + 1) rfl rfl rfl (by omega)) <| sM (I ((s7 : Int) + 1)) rfl <| s_nil ?_
   exact ⟨m8z, lt9z, s7 + 1, s8, s9, l6, l7, v_l6, v_l7, _, upds_of _ _ ⟨rfl, rfl, rfl, rfl, rfl, rfl, trivial⟩, M.e_inl hM hN11z, (H.pick [1, 2, 3] (by decide) rfl)⟩
  replace hM := M.e_f hM c20z
  simp only [qz1, qz2, qz3, qz4, qz5, qz6, ne_eq, qz7] at c20z
  refine W.skip <| W.seq <| W.region rfl <| sM (I (s7 : Int)) rfl <| sM (Pz b_s) rfl ?_
  obtain ⟨r22z, hx21z, hM⟩ := M.e_bind hM
  refine s_call cf44 [Pz b_s, I 9] rfl (nilometerkit_Stream_Next_ok s_bytes s8 s9 9 (hC_s_bytes.app _) hs_s_bytes hx21z _ (St.give (L := [cBlk b_s [v_s_bytes, I s8, I s9] 158, cBlk b_1 [u14z, I ((w_.getD s7 default).base), I ((w_.getD s7 default).minutes)] 60, cOwn (α := Note) 30 v_l7 l7, cOwn (α := Note) 30 v_l6 l6]) (A := [cBlk b_s [v_s_bytes, I s8, I s9] 158]) (T := [cBlk b_1 [u14z, I ((w_.getD s7 default).base), I ((w_.getD s7 default).minutes)] 60, cOwn (α := Note) 30 v_l7 l7, cOwn (α := Note) 30 v_l6 l6]) (H.pick [3, 0, 1, 2] (by decide) rfl) rfl)) ?_
  rintro vq w23z ⟨r2, q1, q2, hr24z, hvq, H2_⟩
  subst hr24z
  subst vq
  try dsimp only at hM
  replace H : St w w23z [cBlk b_s [v_s_bytes, I q1, I q2] 158, cBlk b_1 [u14z, I ((w_.getD s7 default).base), I ((w_.getD s7 default).minutes)] 60, cOwn (α := Note) 30 v_l7 l7, cOwn (α := Note) 30 v_l6 l6] R := H.pick [3, 0, 1, 2] (by decide) rfl |>.back H2_ rfl
  clear H2_
  refine sM (Pz b_s) rfl ?_
  obtain ⟨r26z, hx25z, hM⟩ := M.e_bind hM
  refine s_call cf44 [Pz b_s, I 2000] rfl (nilometerkit_Stream_Next_ok s_bytes q1 q2 2000 (hC_s_bytes.app _) hs_s_bytes hx25z _ (St.give (T := [cBlk b_1 [u14z, I ((w_.getD s7 default).base), I ((w_.getD s7 default).minutes)] 60, cOwn (α := Note) 30 v_l7 l7, cOwn (α := Note) 30 v_l6 l6]) H rfl)) ?_
  rintro vq w27z ⟨r3, q12, q22, hr28z, hvq, H2_⟩
  subst hr28z
  subst vq
  try dsimp only at hM
  replace H : St w w27z [cBlk b_s [v_s_bytes, I q12, I q22] 158, cBlk b_1 [u14z, I ((w_.getD s7 default).base), I ((w_.getD s7 default).minutes)] 60, cOwn (α := Note) 30 v_l7 l7, cOwn (α := Note) 30 v_l6 l6] R := H.back H2_ rfl
  clear H2_
  refine s_val (x_bld (ps := [(0, I (s7 : Int)), (1, I r2), (2, I r3)]) (zs := [I 0, I 0, I 0]) (L' := [I (s7 : Int), I r2, I r3]) rfl Try.underlying30 Al30 rfl (Bd30 Try.underlying30) (.cons (cs := [I (s7 : Int)]) rfl rfl rfl rfl rfl <| .cons (cs := [I r2]) rfl rfl rfl rfl rfl <| .cons (cs := [I r3]) rfl rfl rfl rfl rfl <| .nil)) ?_
  refine t_alloc (cs := [I 0, I 0, I 0]) H Al30 rfl ?_
  intro b_2 w29z H
  refine t_st (k := 0) (b := b_2) (off := 0) (cs := [I 0, I 0, I 0]) (vs := [I (s7 : Int), I r2, I r3]) (cs' := [I (s7 : Int), I r2, I r3]) (v := .agg #[I (s7 : Int), I r2, I r3]) (L' := [cBlk b_2 [I (s7 : Int), I r2, I r3] 30, cBlk b_s [v_s_bytes, I q12, I q22] 158, cBlk b_1 [u14z, I ((w_.getD s7 default).base), I ((w_.getD s7 default).minutes)] 60, cOwn (α := Note) 30 v_l7 l7, cOwn (α := Note) 30 v_l6 l6]) H rfl rfl rfl Sz30 rfl rfl rfl rfl rfl rfl ?_
  intro w30z H
  refine s_nil <| W.seq <| W.region rfl <| sM v_l6 rfl <| s_val (x_ld (p := Pz b_2) (v := .agg #[I (s7 : Int), I r2, I r3]) rfl (ldb_ag (ds := [I (s7 : Int), I r2, I r3]) Ag30 Sz30 (H.blk (k := 0) rfl) rfl rfl)) ?_
  refine t_bs (α := Note) T23 [.agg #[I (s7 : Int), I r2, I r3]] [(⟨(s7 : Int), (r2 : Int), (r3 : Int)⟩ : Note)] H rfl (.cons rfl (Flat.rep_enc _ (⟨(s7 : Int), (r2 : Int), (r3 : Int)⟩ : Note)) <| .nil) rfl rfl rfl ?_
  intro v31z w32z H
  obtain ⟨sd33z, hM⟩ := M.e_grd hM
  simp only [Bool.and_eq_true, decide_eq_true_eq] at sd33z
  refine t_app (α := Note) (k := 5) (l := l6) (l2 := [(⟨(s7 : Int), (r2 : Int), (r3 : Int)⟩ : Note)]) (l' := l6 ++ ([(⟨(s7 : Int), (r2 : Int), (r3 : Int)⟩ : Note)])) (vy := v31z) T23 rfl H rfl rfl rfl (ownSl (H.get (k := 0) rfl)) (ownLe _ (H.get (k := 0) rfl)) (rfl) (by first | omega | (simp only [List.length_nil] at *; omega)) ?_
  intro v34z w35z H
  replace H : St w w35z [cOwn (α := Note) 30 v31z ([(⟨(s7 : Int), (r2 : Int), (r3 : Int)⟩ : Note)]), cBlk b_2 [I (s7 : Int), I r2, I r3] 30, cBlk b_s [v_s_bytes, I q12, I q22] 158, cBlk b_1 [u14z, I ((w_.getD s7 default).base), I ((w_.getD s7 default).minutes)] 60, cOwn (α := Note) 30 v_l7 l7, cOwn (α := Note) 30 v34z (l6 ++ ([(⟨(s7 : Int), (r2 : Int), (r3 : Int)⟩ : Note)]))] R := H
  refine sA v34z rfl <| s_nil <| W.seq <| W.region rfl <| s_val (x_fa (a := Pz b_2) (v := Oz b_2 1) rfl (fa_blk (o := 0) Fd30_1 Sz3)) <| s_val (x_ld (p := Oz b_2 1) (v := I r2) rfl (ldb_sc Sc3 (H.blk (k := 1) rfl) rfl)) <| sM (I 0) rfl <| s_nil <| W.block ?_
  obtain ⟨ex36z, hi37z, hk38z⟩ := M.e_bind hM
  obtain ⟨m0_, hi37z⟩ := M.e_iter hi37z
  refine W.loop (fun m σ W => ∃ (s2 : Int) (s3 : Int) (s4 : Nat) (l4 : List Note) (v_l4 : Value) (ρ : Env), σ = upds ρ [(0, Pz b_s), (5, v34z), (6, v_l4), (7, I (s7 : Int)), (11, v_w_), (12, I (w_.length : Int)), (13, I (s7 : Int)), (33, I r2), (34, I (s4 : Int))] ∧ M.iterN (m_nilometerlaw13_Noted_b2 s_bytes s7 r2) m (s2, s3, s4, l4) = some ex36z ∧ St w W [cOwn (α := Note) 30 v31z ([(⟨(s7 : Int), (r2 : Int), (r3 : Int)⟩ : Note)]), cBlk b_2 [I (s7 : Int), I r2, I r3] 30, cBlk b_s [v_s_bytes, I s2, I s3] 158, cBlk b_1 [u14z, I ((w_.getD s7 default).base), I ((w_.getD s7 default).minutes)] 60, cOwn (α := Note) 30 v_l4 l4, cOwn (α := Note) 30 v34z (l6 ++ ([(⟨(s7 : Int), (r2 : Int), (r3 : Int)⟩ : Note)]))] R) ?_ ?_
  ·exact ⟨_, q12, q22, 0, l7, v_l7, _, upds_of _ _ ⟨rfl, rfl, rfl, rfl, rfl, rfl, rfl, rfl, rfl, trivial⟩, hi37z, H⟩
  rintro m41z σ w39z ⟨s2, s3, s4, l4, v_l4, ρ, rfl, hI40z, H⟩
  obtain ⟨m42z, lt43z, x44z, hM, hN45z⟩ := M.e_iterN hI40z
  simp only [m_nilometerlaw13_Noted_b2] at hM
  clear hI40z
  refine W.seq <| W.region rfl <| sC (s4 : Int) r2 (decide ((s4 : Int) < r2)) rfl rfl rfl <| s_nil <| W.seq ?_
  refine W.cond (decide ((s4 : Int) < r2)) rfl (fun c46z => ?_) (fun c46z => ?_)
  ·replace hM := M.e_t hM c46z
   simp only [qz1, qz2, qz3, qz4, qz5, qz6, ne_eq, qz7] at c46z
   refine W.skip <| W.seq <| W.block <| W.seq <| W.region rfl <| sM (I (s4 : Int)) rfl <| sA (I (s4 : Int)) rfl <| s_nil <| W.seq <| W.region rfl <| sM (Pz b_s) rfl ?_
   obtain ⟨r48z, hx47z, hM⟩ := M.e_bind hM
   refine s_call cf44 [Pz b_s, I 3] rfl (nilometerkit_Stream_Next_ok s_bytes s2 s3 3 (hC_s_bytes.app _) hs_s_bytes hx47z _ (St.give (L := [cBlk b_s [v_s_bytes, I s2, I s3] 158, cOwn (α := Note) 30 v31z ([(⟨(s7 : Int), (r2 : Int), (r3 : Int)⟩ : Note)]), cBlk b_2 [I (s7 : Int), I r2, I r3] 30, cBlk b_1 [u14z, I ((w_.getD s7 default).base), I ((w_.getD s7 default).minutes)] 60, cOwn (α := Note) 30 v_l4 l4, cOwn (α := Note) 30 v34z (l6 ++ ([(⟨(s7 : Int), (r2 : Int), (r3 : Int)⟩ : Note)]))]) (A := [cBlk b_s [v_s_bytes, I s2, I s3] 158]) (T := [cOwn (α := Note) 30 v31z ([(⟨(s7 : Int), (r2 : Int), (r3 : Int)⟩ : Note)]), cBlk b_2 [I (s7 : Int), I r2, I r3] 30, cBlk b_1 [u14z, I ((w_.getD s7 default).base), I ((w_.getD s7 default).minutes)] 60, cOwn (α := Note) 30 v_l4 l4, cOwn (α := Note) 30 v34z (l6 ++ ([(⟨(s7 : Int), (r2 : Int), (r3 : Int)⟩ : Note)]))]) (H.pick [2, 0, 1, 3, 4, 5] (by decide) rfl) rfl)) ?_
   rintro vq w49z ⟨r4, q13, q23, hr50z, hvq, H2_⟩
   subst hr50z
   subst vq
   try dsimp only at hM
   replace H : St w w49z [cBlk b_s [v_s_bytes, I q13, I q23] 158, cOwn (α := Note) 30 v31z ([(⟨(s7 : Int), (r2 : Int), (r3 : Int)⟩ : Note)]), cBlk b_2 [I (s7 : Int), I r2, I r3] 30, cBlk b_1 [u14z, I ((w_.getD s7 default).base), I ((w_.getD s7 default).minutes)] 60, cOwn (α := Note) 30 v_l4 l4, cOwn (α := Note) 30 v34z (l6 ++ ([(⟨(s7 : Int), (r2 : Int), (r3 : Int)⟩ : Note)]))] R := H.pick [2, 0, 1, 3, 4, 5] (by decide) rfl |>.back H2_ rfl
   clear H2_
   refine sC r4 0 (r4 == 0) rfl rfl rfl <| s_nil ?_
   refine W.cond (r4 == 0) rfl (fun c51z => ?_) (fun c51z => ?_)
   ·replace hM := M.e_t hM c51z
    simp only [qz1, qz2, qz3, qz4, qz5, qz6, ne_eq, qz7] at c51z
    refine W.region rfl <| sM v_l4 rfl <| sM (I (s7 : Int)) rfl <| sM (I (s4 : Int)) rfl <| sM (Pz b_s) rfl ?_
    obtain ⟨r53z, hx52z, hM⟩ := M.e_bind hM
    refine s_call cf44 [Pz b_s, I 2000] rfl (nilometerkit_Stream_Next_ok s_bytes q13 q23 2000 (hC_s_bytes.app _) hs_s_bytes hx52z _ (St.give (T := [cOwn (α := Note) 30 v31z ([(⟨(s7 : Int), (r2 : Int), (r3 : Int)⟩ : Note)]), cBlk b_2 [I (s7 : Int), I r2, I r3] 30, cBlk b_1 [u14z, I ((w_.getD s7 default).base), I ((w_.getD s7 default).minutes)] 60, cOwn (α := Note) 30 v_l4 l4, cOwn (α := Note) 30 v34z (l6 ++ ([(⟨(s7 : Int), (r2 : Int), (r3 : Int)⟩ : Note)]))]) H rfl)) ?_
    rintro vq w54z ⟨r5, q14, q24, hr55z, hvq, H2_⟩
    subst hr55z
    subst vq
    try dsimp only at hM
    replace H : St w w54z [cBlk b_s [v_s_bytes, I q14, I q24] 158, cOwn (α := Note) 30 v31z ([(⟨(s7 : Int), (r2 : Int), (r3 : Int)⟩ : Note)]), cBlk b_2 [I (s7 : Int), I r2, I r3] 30, cBlk b_1 [u14z, I ((w_.getD s7 default).base), I ((w_.getD s7 default).minutes)] 60, cOwn (α := Note) 30 v_l4 l4, cOwn (α := Note) 30 v34z (l6 ++ ([(⟨(s7 : Int), (r2 : Int), (r3 : Int)⟩ : Note)]))] R := H.back H2_ rfl
    clear H2_
    refine s_val (x_bld (ps := [(0, I (s7 : Int)), (1, I (s4 : Int)), (2, I r5)]) (zs := [I 0, I 0, I 0]) (L' := [I (s7 : Int), I (s4 : Int), I r5]) rfl Try.underlying30 Al30 rfl (Bd30 Try.underlying30) (.cons (cs := [I (s7 : Int)]) rfl rfl rfl rfl rfl <| .cons (cs := [I (s4 : Int)]) rfl rfl rfl rfl rfl <| .cons (cs := [I r5]) rfl rfl rfl rfl rfl <| .nil)) ?_
    refine t_bs (α := Note) T23 [.agg #[I (s7 : Int), I (s4 : Int), I r5]] [(⟨(s7 : Int), (s4 : Int), (r5 : Int)⟩ : Note)] H rfl (.cons rfl (Flat.rep_enc _ (⟨(s7 : Int), (s4 : Int), (r5 : Int)⟩ : Note)) <| .nil) rfl rfl rfl ?_
    intro v56z w57z H
    obtain ⟨sd58z, hM⟩ := M.e_grd hM
    simp only [Bool.and_eq_true, decide_eq_true_eq] at sd58z
    refine t_app (α := Note) (k := 5) (l := l4) (l2 := [(⟨(s7 : Int), (s4 : Int), (r5 : Int)⟩ : Note)]) (l' := l4 ++ ([(⟨(s7 : Int), (s4 : Int), (r5 : Int)⟩ : Note)])) (vy := v56z) T23 rfl H rfl rfl rfl (ownSl (H.get (k := 0) rfl)) (ownLe _ (H.get (k := 0) rfl)) (rfl) (by first | omega | (simp only [List.length_nil] at *; omega)) ?_
    intro v59z w60z H
    replace H : St w w60z [cOwn (α := Note) 30 v56z ([(⟨(s7 : Int), (s4 : Int), (r5 : Int)⟩ : Note)]), cBlk b_s [v_s_bytes, I q14, I q24] 158, cOwn (α := Note) 30 v31z ([(⟨(s7 : Int), (r2 : Int), (r3 : Int)⟩ : Note)]), cBlk b_2 [I (s7 : Int), I r2, I r3] 30, cBlk b_1 [u14z, I ((w_.getD s7 default).base), I ((w_.getD s7 default).minutes)] 60, cOwn (α := Note) 30 v59z (l4 ++ ([(⟨(s7 : Int), (s4 : Int), (r5 : Int)⟩ : Note)])), cOwn (α := Note) 30 v34z (l6 ++ ([(⟨(s7 : Int), (r2 : Int), (r3 : Int)⟩ : Note)]))] R := H
    refine sA v59z rfl <| s_nil <| W.region rfl ?_
    obtain ⟨sd61z, hM⟩ := M.e_grd hM
    simp only [Bool.and_eq_true, decide_eq_true_eq] at sd61z
    refine s_val (x_ari (a := (s4 : Int)) (b := 1) (r := (s4 : Int) + 1) rfl rfl rfl (by omega)) <| sM (I ((s4 : Int) + 1)) rfl <| s_nil ?_
    exact ⟨m42z, lt43z, q14, q24, s4 + 1, l4 ++ ([(⟨(s7 : Int), (s4 : Int), (r5 : Int)⟩ : Note)]), v59z, _, upds_of _ _ ⟨rfl, rfl, rfl, rfl, rfl, rfl, rfl, rfl, rfl, trivial⟩, M.e_inl hM hN45z, (H.pick [2, 3, 1, 4, 5, 6] (by decide) rfl)⟩
   replace hM := M.e_f hM c51z
   simp only [qz1, qz2, qz3, qz4, qz5, qz6, ne_eq, qz7] at c51z
   refine W.skip <| W.region rfl ?_
   obtain ⟨sd62z, hM⟩ := M.e_grd hM
   simp only [Bool.and_eq_true, decide_eq_true_eq] at sd62z
   refine s_val (x_ari (a := (s4 : Int)) (b := 1) (r := (s4 : Int) + 1) rfl rfl rfl (by omega)) <| sM (I ((s4 : Int) + 1)) rfl <| s_nil ?_
   exact ⟨m42z, lt43z, q13, q23, s4 + 1, l4, v_l4, _, upds_of _ _ ⟨rfl, rfl, rfl, rfl, rfl, rfl, rfl, rfl, rfl, trivial⟩, M.e_inl hM hN45z, (H.pick [1, 2, 0, 3, 4, 5] (by decide) rfl)⟩
  replace hM := M.e_f hM c46z
  simp only [qz1, qz2, qz3, qz4, qz5, qz6, ne_eq, qz7] at c46z
  refine W.exit ?_
  have hX63z := M.e_inr hM hN45z
  subst hX63z
  replace hM := hk38z
  try dsimp only at hM
  refine W.region rfl <| s_val (x_ari (a := (s7 : Int)) (b := 1) (r := (s7 : Int) + 1) rfl rfl rfl (by omega)) <| sM (I ((s7 : Int) + 1)) rfl <| s_nil ?_
  exact ⟨m8z, lt9z, s7 + 1, s2, s3, l6 ++ ([(⟨(s7 : Int), (r2 : Int), (r3 : Int)⟩ : Note)]), l4, v34z, v_l4, _, upds_of _ _ ⟨rfl, rfl, rfl, rfl, rfl, rfl, trivial⟩, M.e_inl hM hN11z, (H.pick [4, 5, 2] (by decide) rfl)⟩
 replace hM := M.e_f hM c12z
 simp only [qz1, qz2, qz3, qz4, qz5, qz6, ne_eq, qz7] at c12z
 refine W.exit ?_
 have hX64z := M.e_inr hM hN11z
 subst hX64z
 replace hM := hk4z
 try dsimp only at hM
 refine W.seq <| W.region rfl <| sM v_l6 rfl <| sM v_l7 rfl ?_
 obtain ⟨sd65z, hM⟩ := M.e_grd hM
 simp only [Bool.and_eq_true, decide_eq_true_eq] at sd65z
 refine t_app (α := Note) (k := 1) (l := l6) (l2 := l7) (l' := l6 ++ l7) (vy := v_l7) T23 rfl H rfl rfl rfl (ownSl (H.get (k := 0) rfl)) (ownLe _ (H.get (k := 0) rfl)) (rfl) (by first | omega | (simp only [List.length_nil] at *; omega)) ?_
 intro v66z w67z H
 replace H : St w w67z [cOwn (α := Note) 30 v_l7 l7, cOwn (α := Note) 30 v66z (l6 ++ l7), cBlk b_s [v_s_bytes, I s8, I s9] 158] R := H
 refine sA v66z rfl <| s_nil ?_
 refine W.ret ?_
 have hr_ := M.e_pure hM
 exact ⟨_, resE_tmp rfl, ⟨(l6 ++ l7), s8, s9, v66z, hr_, rfl, (H.pick [1, 2] (by decide) rfl)⟩⟩

end Go.Proofs.Ytndobgodeicloaa
end
