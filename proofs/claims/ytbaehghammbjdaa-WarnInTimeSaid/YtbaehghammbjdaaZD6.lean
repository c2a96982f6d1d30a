/- Part 6 of the texts on which the proof rests. Conditions: none. -/
import Derived.Test.YtbaehghammbjdaaZD5
set_option linter.unusedVariables false
set_option linter.unusedSimpArgs false
set_option linter.unusedSectionVars false
section
set_option maxRecDepth 100000
set_option maxHeartbeats 16000000
namespace Go.Proofs.Ytbaehghammbjdaa
open Go Go.Nm
def zbY (ac : List Int) (ae : List Span) (ah : List Int) (ai : List Town) (aj : Int) (ak : Int) (aa : List Flood) (watches : List Int) (flood : Int) : M (Int × Bool × Int) :=
  M.bind (zap ac ae ah ai aj ak aa watches) fun x_ => match x_ with
  | (.inl (r1, r2)) => (
  M.bind (M.opt (r2 == 0) (zac flood 0 ((aa.length : Int) - 1)) false) fun r3 =>
  bif ((r2 == 0) && (!r3)) then (
  M.pure (0, false, 2))
  else (
  bif r2 != 0 then (
  M.pure (0, false, r2))
  else (
  M.fail)))
  | (.inr (al, am, ao, ab)) => (
  M.bind (M.opt (ab == 0) (zac flood 0 ((aa.length : Int) - 1)) false) fun r3 =>
  bif ((ab == 0) && (!r3)) then (
  M.pure (0, false, 2))
  else (
  bif ab != 0 then (
  M.fail)
  else (
  M.grd (decide ((0 : Int) <= flood) && decide (flood < (aa.length : Int))) <|
  M.bind (zan ac ae ah ai al am aa (aa.getD (Int.toNat flood) default) ao) fun (r0, au, aq) =>
  M.pure (r0, aq, 0))))
theorem zdd {R : List Chunk} {bb : Cells} {al : Value} {bc : Cells} {am : Value} {bf : Cells} {ao : Value} {bg : Cells} {aq : Value} {bh : Cells} {ac : Value} {bi : Cells} {aK : Value} (aA : List Int) (aB : List Span) (aC : List Int) (aD : List Town) (av : Int) (aw : Int) (ab : List Flood) (watches : List Int) (flood : Int) (aQ : Reads R bb) (aR : Sl bb al aA) (aS : Reads R bc) (aT : Sl bc am aB) (aU : Reads R bf) (aV : Sl bf ao aC) (aW : Reads R bg) (aX : Sl bg aq aD) (aG : Reads R bh) (az : Sl bh ac ab) (bo : Reads R bi) (bp : Sl bi aK watches) {r : (Int × Bool × Int)} (hM : (zbY aA aB aC aD av aw ab watches flood).Ends r) (w : World) (H : St w w [] R) : Ret Try.prog 13 #[.agg #[al, am, ao, aq, I av, I aw, ac], aK, I flood] w fun v w' => ∃ (y0 : Int) (y1 : Bool) (y2 : Int), (y0, y1, y2) = r /\ v = .tuple #[I y0, B y1, I y2] /\ St w w' [] R := by
 refine ret_of_W Try.func13 rfl rfl rfl ?_
 refine W.seq ?_
 refine W.region rfl ?_
 refine t_box (v := .agg #[al, am, ao, aq, I av, I aw, ac]) (cs := [al, am, ao, aq, I av, I aw, ac]) H rfl rfl ?_
 intro ae bE H
 refine zA (I 0) rfl ?_
 refine zA (B false) rfl ?_
 refine zA (I 0) rfl ?_
 refine s_nil ?_
 refine W.seq ?_
 refine W.region rfl ?_
 refine s_val (x_ld (p := Pq ae) (v := .agg #[al, am, ao, aq, I av, I aw, ac]) rfl (ldb_ag (ds := [al, am, ao, aq, I av, I aw, ac]) Ag30 Sz30 (H.bl 0) rfl rfl)) ?_
 refine zM aK rfl ?_
 obtain ⟨bF, bq, hM⟩ := M.e_bind hM
 refine s_call cf31 [.agg #[al, am, ao, aq, I av, I aw, ac], aK] rfl (zb1 aA aB aC aD av aw ab watches (aQ.app _) aR (aS.app _) aT (aU.app _) aV (aW.app _) aX (aG.app _) az (bo.app _) bp bq _ (H.gt 1)) ?_
 rintro vq bG (⟨r1, r2, br, hvq, ax, bt⟩ | ⟨aH, aI, ai, aa, ay, aL, bj, bu, hvq, ax, aM⟩)
 ·subst br
  subst vq
  try dsimp only at hM
  replace H := H.bk ax
  clear ax
  refine zM (.tuple #[.pointer none, .agg (encB r1).toArray, I r2]) rfl ?_
  refine zX [.pointer none, .agg (encB r1).toArray, I r2] (.pointer none) rfl rfl ?_
  refine zX [.pointer none, .agg (encB r1).toArray, I r2] (.agg (encB r1).toArray) rfl rfl ?_
  refine zX [.pointer none, .agg (encB r1).toArray, I r2] (I r2) rfl rfl ?_
  refine t_alloc (cs := encB (List.replicate 12 false)) H Al74 rfl ?_
  intro aE bH H
  have aY : (List.replicate 12 false).length = 12 := by simp
  refine zA (.pointer none) rfl ?_
  refine t_stArrA (k := 0) (b := aE) (l := List.replicate 12 false) (l' := r1) (L' := [cBlk aE (encB r1) 74, cBlk ae [al, am, ao, aq, I av, I aw, ac] 30]) H rfl rfl rfl Sz74 aY bt rfl ?_
  intro bI H
  refine zA (I r2) rfl ?_
  refine s_nil ?_
  refine W.seq ?_
  refine W.seq ?_
  refine W.region rfl ?_
  refine zM (I r2) rfl ?_
  refine zC r2 0 (r2 == 0) rfl rfl rfl ?_
  refine zM (B (r2 == 0)) rfl ?_
  refine g_val (r2 == 0) (gy_t rfl) (fun hg => x_mv (v := I flood) rfl) ?_
  refine g_val (r2 == 0) (gy_t rfl) (fun hg => x_fa (a := Pq ae) (v := Oq ae 6) rfl (fa_blk (o := 0) Fd30_5 Sz28)) ?_
  refine g_val (r2 == 0) (gy_t rfl) (fun hg => x_ld (p := Oq ae 6) (v := ac) (gd_of (c := r2 == 0) hg (Oq ae 6)) (ldb_sc Sc28 (H.bl 1) rfl)) ?_
  have bJ := (az).len_le
  refine g_val (r2 == 0) (gy_t rfl) (fun hg => x_lenS T28.und (gd_of (c := r2 == 0) hg (ac)) az) ?_
  refine g_val (r2 == 0) (gy_t rfl) (fun hg => x_ari (a := (ab.length : Int)) (b := 1) (r := (ab.length : Int) - 1) (gd_of (c := r2 == 0) hg (I (ab.length : Int))) rfl rfl (by first | omega | (have au := hg; simp at au; omega))) ?_
  obtain ⟨r3, bv, hM⟩ := M.e_bind hM
  refine t_gcall (r2 == 0) (gy_t rfl) cf37 (B r3) (fun _ => [I flood, I 0, I ((ab.length : Int) - 1)]) (fun hg => lst3 (gd_of (c := r2 == 0) hg (I flood)) rfl (gd_of (c := r2 == 0) hg (I ((ab.length : Int) - 1)))) H (fun hg => (zag flood 0 ((ab.length : Int) - 1) (M.e_opt bv hg) _ (H.give (A := []) rfl)).mono fun v_ w_ ⟨y_, aj, aZ, H_⟩ => by subst aj; exact ⟨aZ, H.via H_⟩) ?_
  intro bK H
  refine g_val (r2 == 0) (gy_t rfl) (fun hg => x_not (b := r3) (gd_of (c := r2 == 0) hg (B r3))) ?_
  refine s_val (x_pand (b := r2 == 0) (r := !r3) rfl (fun hb => gd_of (c := r2 == 0) (by first | exact hb | (rw [hb]; rfl) | simp_all) (B (!r3))) rfl) ?_
  refine s_nil ?_
  refine W.cond ((r2 == 0) && (!r3)) rfl (fun a8 => ?_) (fun a8 => ?_)
  ·replace hM := M.e_t hM a8
   refine W.region rfl ?_
   refine zA (I 2) rfl ?_
   refine s_nil ?_
   refine W.seq ?_
   refine W.seq ?_
   refine W.region rfl ?_
   refine zM (I 2) rfl ?_
   refine zC 2 0 ((2 : Int) != 0) rfl rfl rfl ?_
   refine s_nil ?_
   refine W.cond ((2 : Int) != 0) rfl (fun bm => ?_) (fun bm => ?_)
   ·skip
    refine W.seq ?_
    refine W.region rfl ?_
    refine zM (I 2) rfl ?_
    refine zA (I 0) rfl ?_
    refine zA (B false) rfl ?_
    refine zA (I 2) rfl ?_
    refine s_nil ?_
    replace H := H.pk []
    refine W.ret ?_
    have aj := M.e_pure hM
    exact ⟨_, resE_tmp3 rfl, ⟨0, false, 2, aj, rfl, H⟩⟩
   skip
   exact absurd bm (by decide)
  replace hM := M.e_f hM a8
  refine W.skip ?_
  refine W.seq ?_
  refine W.seq ?_
  refine W.region rfl ?_
  refine zM (I r2) rfl ?_
  refine zC r2 0 (r2 != 0) rfl rfl rfl ?_
  refine s_nil ?_
  refine W.cond (r2 != 0) rfl (fun aN => ?_) (fun aN => ?_)
  ·replace hM := M.e_t hM aN
   simp only [qy1, qy2, qy3, qy4, qy5, qy6, ne_eq, qy7] at aN
   refine W.seq ?_
   refine W.region rfl ?_
   refine zM (I r2) rfl ?_
   refine zA (I 0) rfl ?_
   refine zA (B false) rfl ?_
   refine zA (I r2) rfl ?_
   refine s_nil ?_
   replace H := H.pk []
   refine W.ret ?_
   have aj := M.e_pure hM
   exact ⟨_, resE_tmp3 rfl, ⟨0, false, r2, aj, rfl, H⟩⟩
  replace hM := M.e_f hM aN
  exact (M.e_fail hM).elim
 subst bu
 subst vq
 try dsimp only at hM
 replace H := H.bk ax
 clear ax
 refine zM (.tuple #[Pq ay, .agg (encB ai).toArray, I aa]) rfl ?_
 refine zX [Pq ay, .agg (encB ai).toArray, I aa] (Pq ay) rfl rfl ?_
 refine zX [Pq ay, .agg (encB ai).toArray, I aa] (.agg (encB ai).toArray) rfl rfl ?_
 refine zX [Pq ay, .agg (encB ai).toArray, I aa] (I aa) rfl rfl ?_
 refine t_alloc (cs := encB (List.replicate 12 false)) H Al74 rfl ?_
 intro aE bL H
 have aY : (List.replicate 12 false).length = 12 := by simp
 refine zA (Pq ay) rfl ?_
 refine t_stArrA (k := 0) (b := aE) (l := List.replicate 12 false) (l' := ai) (L' := [cBlk aE (encB ai) 74, cBlk ay [al, am, ao, aq, I aH, I aI, ac, .map (some aL)] 86, cMem encDm aL bj (zaa aA aB aC aD aH aI ab), cBlk ae [al, am, ao, aq, I av, I aw, ac] 30]) H rfl rfl rfl Sz74 aY aM rfl ?_
 intro bM H
 refine zA (I aa) rfl ?_
 refine s_nil ?_
 refine W.seq ?_
 refine W.seq ?_
 refine W.region rfl ?_
 refine zM (I aa) rfl ?_
 refine zC aa 0 (aa == 0) rfl rfl rfl ?_
 refine zM (B (aa == 0)) rfl ?_
 refine g_val (aa == 0) (gy_t rfl) (fun hg => x_mv (v := I flood) rfl) ?_
 refine g_val (aa == 0) (gy_t rfl) (fun hg => x_fa (a := Pq ae) (v := Oq ae 6) rfl (fa_blk (o := 0) Fd30_5 Sz28)) ?_
 refine g_val (aa == 0) (gy_t rfl) (fun hg => x_ld (p := Oq ae 6) (v := ac) (gd_of (c := aa == 0) hg (Oq ae 6)) (ldb_sc Sc28 (H.bl 3) rfl)) ?_
 have bN := (az).len_le
 refine g_val (aa == 0) (gy_t rfl) (fun hg => x_lenS T28.und (gd_of (c := aa == 0) hg (ac)) az) ?_
 refine g_val (aa == 0) (gy_t rfl) (fun hg => x_ari (a := (ab.length : Int)) (b := 1) (r := (ab.length : Int) - 1) (gd_of (c := aa == 0) hg (I (ab.length : Int))) rfl rfl (by first | omega | (have au := hg; simp at au; omega))) ?_
 obtain ⟨r3, bw, hM⟩ := M.e_bind hM
 refine t_gcall (aa == 0) (gy_t rfl) cf37 (B r3) (fun _ => [I flood, I 0, I ((ab.length : Int) - 1)]) (fun hg => lst3 (gd_of (c := aa == 0) hg (I flood)) rfl (gd_of (c := aa == 0) hg (I ((ab.length : Int) - 1)))) H (fun hg => (zag flood 0 ((ab.length : Int) - 1) (M.e_opt bw hg) _ (H.give (A := []) rfl)).mono fun v_ w_ ⟨y_, aj, aZ, H_⟩ => by subst aj; exact ⟨aZ, H.via H_⟩) ?_
 intro bO H
 refine g_val (aa == 0) (gy_t rfl) (fun hg => x_not (b := r3) (gd_of (c := aa == 0) hg (B r3))) ?_
 refine s_val (x_pand (b := aa == 0) (r := !r3) rfl (fun hb => gd_of (c := aa == 0) (by first | exact hb | (rw [hb]; rfl) | simp_all) (B (!r3))) rfl) ?_
 refine s_nil ?_
 refine W.cond ((aa == 0) && (!r3)) rfl (fun ba => ?_) (fun ba => ?_)
 ·replace hM := M.e_t hM ba
  refine W.region rfl ?_
  refine zA (I 2) rfl ?_
  refine s_nil ?_
  refine W.seq ?_
  refine W.seq ?_
  refine W.region rfl ?_
  refine zM (I 2) rfl ?_
  refine zC 2 0 ((2 : Int) != 0) rfl rfl rfl ?_
  refine s_nil ?_
  refine W.cond ((2 : Int) != 0) rfl (fun bn => ?_) (fun bn => ?_)
  ·skip
   refine W.seq ?_
   refine W.region rfl ?_
   refine zM (I 2) rfl ?_
   refine zA (I 0) rfl ?_
   refine zA (B false) rfl ?_
   refine zA (I 2) rfl ?_
   refine s_nil ?_
   replace H := H.pk []
   refine W.ret ?_
   have aj := M.e_pure hM
   exact ⟨_, resE_tmp3 rfl, ⟨0, false, 2, aj, rfl, H⟩⟩
  skip
  exact absurd bn (by decide)
 replace hM := M.e_f hM ba
 refine W.skip ?_
 refine W.seq ?_
 refine W.seq ?_
 refine W.region rfl ?_
 refine zM (I aa) rfl ?_
 refine zC aa 0 (aa != 0) rfl rfl rfl ?_
 refine s_nil ?_
 refine W.cond (aa != 0) rfl (fun aO => ?_) (fun aO => ?_)
 ·replace hM := M.e_t hM aO
  exact (M.e_fail hM).elim
 replace hM := M.e_f hM aO
 simp only [qy1, qy2, qy3, qy4, qy5, qy6, ne_eq, qy7] at aO
 refine W.skip ?_
 refine W.seq ?_
 refine W.drawT (fun W => St w W [cBlk aE (encB ai) 74, cBlk ay [al, am, ao, aq, I aH, I aI, ac, .map (some aL)] 86, cMem encDm aL bj (zaa aA aB aC aD aH aI ab), cBlk ae [al, am, ao, aq, I av, I aw, ac] 30] R) (.q 0 (.q 1 (.q 2 (.q 3 (.q 4 (.q 5 (.q 6 (.l2 7 (.l 8 (.l 9 .nil)) 8 (.l 7 (.l 9 .nil)))))))))) mixed (by decide +kernel) rfl ?_
 intro bP au
 replace H := H.ext au
 clear au
 refine ⟨(H.pk [0, 1, 2, 3]), ?_⟩
 refine t_q rfl (fun w' H => x_mv (v := Pq ay) rfl) ?_
 refine t_q rfl (fun w' H => x_fa (a := Pq ae) (v := Oq ae 6) rfl (fa_blk (o := 0) Fd30_5 Sz28)) ?_
 refine t_q rfl (fun w' H => x_ld (p := Oq ae 6) (v := ac) rfl (ldb_sc Sc28 (H.bl 3) rfl)) ?_
 refine t_q rfl (fun w' H => x_mv (v := I flood) rfl) ?_
 obtain ⟨bx, hM⟩ := M.e_grd hM
 simp only [Bool.and_eq_true, decide_eq_true_eq] at bx
 refine t_q rfl (fun w' H => x_ix (a := ac) (b := I flood) (v := vat ac 2 (Int.toNat flood)) rfl rfl (Sl.ix (α := Flood) T28.und T28.size az (by omega) (by omega))) ?_
 obtain ⟨aP, bz, aJ⟩ := Flood_atA az (i := flood) (by omega) (by omega)
 replace aJ : Sl _ aP (ab.getD (Int.toNat flood) default).stages := aJ
 have bQ := aJ.len_le
 refine t_q rfl (fun w' H => x_ld (p := vat ac 2 (Int.toNat flood)) (v := .agg #[I ((ab.getD (Int.toNat flood) default).spring), aP]) rfl (ld_ag Ag67 Sz67 (At.mono bz (aG.at H)))) ?_
 refine t_q rfl (fun w' H => x_ld (p := Pq aE) (v := .agg (encB ai).toArray) rfl (ldArrA Ag74 Sz74 aM (H.bl 0))) ?_
 refine t_l2 rfl rfl ?_ ?_
 ·skip
  obtain ⟨bR, bA, hM⟩ := M.e_bind hM
  refine s_call cf34 [Pq ay, .agg #[I ((ab.getD (Int.toNat flood) default).spring), aP], .agg (encB ai).toArray] rfl (zaG aA aB aC aD aH aI ab (ab.getD (Int.toNat flood) default) ai (aQ.app _) aR (aS.app _) aT (aU.app _) aV (aW.app _) aX (aG.app _) az (Has.here (k := 1) rfl) (aG.app _) aJ aM bA _ (H.gt 4)) ?_
  rintro vq bS ⟨r0, aF, ak, bB, hvq, ax⟩
  subst bB
  subst vq
  try dsimp only at hM
  replace H := H.bk ax
  clear ax
  refine s_nil ⟨(H.pk [0, 1, 2, 3]), ?_⟩
  refine t_l rfl ?_
  refine t_alloc (cs := [I 0, I 0, B false]) H Al79 rfl ?_
  intro ah bT H
  refine s_nil ⟨(H.pk [1, 2, 3, 4]), ?_⟩
  refine t_l rfl ?_
  refine t_sw 0 0 [I r0, I aF, B ak] (.agg #[I r0, I aF, B ak]) H rfl rfl Sz79 rfl rfl rfl rfl ?_
  intro bU H
  refine s_nil ⟨(H.pk [1, 2, 3, 4]), ?_⟩
  refine t_nil ?_
  replace H := H.pk [0]
  refine W.seq ?_
  refine W.draw (fun W => St w W [cBlk ah [I r0, I aF, B ak] 79] R) [(0, true), (1, true), (2, true), (3, true), (4, true), (5, true), (6, true)] mixed (by decide +kernel) rfl ?_
  intro bV au
  replace H := H.ext au
  clear au
  refine ⟨(H.pk [0]), ?_⟩
  refine d_q rfl (fun w' H => x_fa (a := Pq ah) (v := Pq ah) rfl (fa_blk (o := 0) Fd79_0 Sz3)) ?_
  refine d_q rfl (fun w' H => x_ld (p := Pq ah) (v := I r0) rfl (ldb_sc Sc3 (H.bl 0) rfl)) ?_
  refine d_q rfl (fun w' H => x_fa (a := Pq ah) (v := Oq ah 2) rfl (fa_blk (o := 0) Fd79_2 Sz4)) ?_
  refine d_q rfl (fun w' H => x_ld (p := Oq ah 2) (v := B ak) rfl (ldb_sc Sc4 (H.bl 0) rfl)) ?_
  refine d_q rfl (fun w' H => x_as (v := I r0) rfl) ?_
  refine d_q rfl (fun w' H => x_as (v := B ak) rfl) ?_
  refine d_q rfl (fun w' H => x_as (v := I 0) rfl) ?_
  refine d_nil ?_
  refine W.ret ?_
  have aj := M.e_pure hM
  exact ⟨_, resE_tmp3 rfl, ⟨r0, ak, 0, aj, rfl, (H.pk [])⟩⟩
 skip
 refine t_alloc (cs := [I 0, I 0, B false]) H Al79 rfl ?_
 intro ah bW H
 refine s_nil ⟨(H.pk [1, 2, 3, 4]), ?_⟩
 refine t_l rfl ?_
 obtain ⟨bX, bC, hM⟩ := M.e_bind hM
 refine s_call cf34 [Pq ay, .agg #[I ((ab.getD (Int.toNat flood) default).spring), aP], .agg (encB ai).toArray] rfl (zaG aA aB aC aD aH aI ab (ab.getD (Int.toNat flood) default) ai (aQ.app _) aR (aS.app _) aT (aU.app _) aV (aW.app _) aX (aG.app _) az (Has.here (k := 2) rfl) (aG.app _) aJ aM bC _ (H.gt 5)) ?_
 rintro vq bY ⟨r0, aF, ak, bD, hvq, ax⟩
 subst bD
 subst vq
 try dsimp only at hM
 replace H := H.bk ax
 clear ax
 refine s_nil ⟨(H.pk [1, 2, 3, 4]), ?_⟩
 refine t_l rfl ?_
 refine t_sw 0 0 [I r0, I aF, B ak] (.agg #[I r0, I aF, B ak]) H rfl rfl Sz79 rfl rfl rfl rfl ?_
 intro bZ H
 refine s_nil ⟨(H.pk [1, 2, 3, 4]), ?_⟩
 refine t_nil ?_
 replace H := H.pk [0]
 refine W.seq ?_
 refine W.draw (fun W => St w W [cBlk ah [I r0, I aF, B ak] 79] R) [(0, true), (1, true), (2, true), (3, true), (4, true), (5, true), (6, true)] mixed (by decide +kernel) rfl ?_
 intro b4 au
 replace H := H.ext au
 clear au
 refine ⟨(H.pk [0]), ?_⟩
 refine d_q rfl (fun w' H => x_fa (a := Pq ah) (v := Pq ah) rfl (fa_blk (o := 0) Fd79_0 Sz3)) ?_
 refine d_q rfl (fun w' H => x_ld (p := Pq ah) (v := I r0) rfl (ldb_sc Sc3 (H.bl 0) rfl)) ?_
 refine d_q rfl (fun w' H => x_fa (a := Pq ah) (v := Oq ah 2) rfl (fa_blk (o := 0) Fd79_2 Sz4)) ?_
 refine d_q rfl (fun w' H => x_ld (p := Oq ah 2) (v := B ak) rfl (ldb_sc Sc4 (H.bl 0) rfl)) ?_
 refine d_q rfl (fun w' H => x_as (v := I r0) rfl) ?_
 refine d_q rfl (fun w' H => x_as (v := B ak) rfl) ?_
 refine d_q rfl (fun w' H => x_as (v := I 0) rfl) ?_
 refine d_nil ?_
 refine W.ret ?_
 have aj := M.e_pure hM
 exact ⟨_, resE_tmp3 rfl, ⟨r0, ak, 0, aj, rfl, (H.pk [])⟩⟩

def zaA : (List Int) -> (Int × Int) -> M ((List Int) ⊕ Unit) := fun l (x, x2) =>
  M.grd (decide ((l.length + ([(x2 : Int)]).length) * 8 <= 140737488355328)) <|
  M.pure (.inl (l ++ ([(x2 : Int)])))
def zbp (aa : List Int) (ab : List Span) (ac : List Int) (ae : List Town) (ak : Int) (al : Int) (ah : List Flood) (station : Int) : M ((List Int) × Int) :=
  M.bind (zao aa ab ac ae ak al ah) fun x_ => match x_ with
  | (.inl r1) => (
  bif r1 != 0 then (
  M.pure (([]), r1))
  else (
  M.fail))
  | (.inr (ai, aj, am)) => (
  bif am != 0 then (
  M.fail)
  else (
  M.bind (zbm aa ab ac ae ai aj ah station) fun r2 =>
  bif !r2 then (
  M.pure (([]), 2))
  else (
  M.bind (zai aa ab ac ae ai aj ah station) fun (ao, aq, au) =>
  M.bind (zaj (M.yl zaA) (.inl ([])) ao aa ab ac ae aq au ah) fun x_ => match x_ with
  | (.inl l, q0) => (
  M.pure (l, 0))
  | (.inr _, _) => M.fail)))
theorem zdL {R : List Chunk} {ba : Cells} {aa : Value} {bb : Cells} {ab : Value} {bc : Cells} {ac : Value} {bf : Cells} {ae : Value} {bg : Cells} {ah : Value} (au : List Int) (av : List Span) (aw : List Int) (ax : List Town) (ao : Int) (aq : Int) (ay : List Flood) (station : Int) (az : Reads R ba) (aH : Sl ba aa au) (aA : Reads R bb) (aI : Sl bb ab av) (aB : Reads R bc) (aJ : Sl bc ac aw) (aC : Reads R bf) (aK : Sl bf ae ax) (aD : Reads R bg) (aL : Sl bg ah ay) {r : ((List Int) × Int)} (hM : (zbp au av aw ax ao aq ay station).Ends r) (w : World) (H : St w w [] R) : Ret Try.prog 17 #[.agg #[aa, ab, ac, ae, I ao, I aq, ah], I station] w fun v w' => ∃ (y0 : List Int) (y1 : Int) (u0 : Value), (y0, y1) = r /\ v = .tuple #[u0, I y1] /\ St w w' [cOwn (α := Int) 3 u0 y0] R := by
 refine ret_of_WD Try.func17 rfl rfl rfl ?_
 replace H : St w w [cMk ([])] R := H.mk0
 have bD := aH.len_le
 have bE := aI.len_le
 have bF := aJ.len_le
 have bG := aK.len_le
 have bH := aL.len_le
 unfold zbp at hM
 refine WD.seq ?_
 refine WD.of ?_
 refine W.region rfl ?_
 refine t_box (v := .agg #[aa, ab, ac, ae, I ao, I aq, ah]) (cs := [aa, ab, ac, ae, I ao, I aq, ah]) H rfl rfl ?_
 intro bi bI H
 refine zA (.slice none 0 0) rfl ?_
 refine zA (I 0) rfl ?_
 refine s_nil ?_
 refine WD.seq ?_
 refine WD.of ?_
 refine W.region rfl ?_
 refine s_val (x_ld (p := Pq bi) (v := .agg #[aa, ab, ac, ae, I ao, I aq, ah]) rfl (ldb_ag (ds := [aa, ab, ac, ae, I ao, I aq, ah]) Ag30 Sz30 (H.bl 0) rfl rfl)) ?_
 obtain ⟨bJ, bj, hM⟩ := M.e_bind hM
 refine s_call cf44 [.agg #[aa, ab, ac, ae, I ao, I aq, ah]] rfl (za2 au av aw ax ao aq ay (az.app _) aH (aA.app _) aI (aB.app _) aJ (aC.app _) aK (aD.app _) aL bj _ (H.gt 2)) ?_
 rintro vq bK (⟨r1, bm, hvq, ai⟩ | ⟨aM, aN, al, ak, bL, bM, bn, hvq, ai⟩)
 ·subst bm
  subst vq
  try dsimp only at hM
  replace H := H.bk ai
  clear ai
  refine zM (.tuple #[.pointer none, I r1]) rfl ?_
  refine zX [.pointer none, I r1] (.pointer none) rfl rfl ?_
  refine zX [.pointer none, I r1] (I r1) rfl rfl ?_
  refine zA (.pointer none) rfl ?_
  refine zA (I r1) rfl ?_
  refine s_nil ?_
  refine WD.seq ?_
  refine WD.block ?_
  refine WD.seq ?_
  refine WD.of ?_
  refine W.region rfl ?_
  refine zM (I r1) rfl ?_
  refine zC r1 0 (r1 != 0) rfl rfl rfl ?_
  refine zA (B (r1 != 0)) rfl ?_
  refine s_nil ?_
  refine WD.cond (r1 != 0) rfl (fun aS => ?_) (fun aS => ?_)
  ·replace hM := M.e_t hM aS
   simp only [qy1, qy2, qy3, qy4, qy5, qy6, ne_eq, qy7] at aS
   refine WD.seq ?_
   refine WD.of ?_
   refine W.region rfl ?_
   refine zM (I r1) rfl ?_
   refine zA (.slice none 0 0) rfl ?_
   refine zA (I r1) rfl ?_
   refine s_nil ?_
   refine WD.of ?_
   refine W.ret ?_
   refine bodyD_r (H.pk [1, 0]) ?_
   intro bN H
   replace H := H.nf
   have aO := M.e_pure hM
   replace H := H.nilOwn (α := Int) 3
   exact ⟨_, resE_tmp2 rfl, ⟨([]), r1, (.slice none 0 0), aO, rfl, (H.pk [0])⟩⟩
  replace hM := M.e_f hM aS
  exact (M.e_fail hM).elim
 subst bn
 subst vq
 try dsimp only at hM
 replace H := H.bk ai
 clear ai
 refine zM (.tuple #[Pq ak, I al]) rfl ?_
 refine zX [Pq ak, I al] (Pq ak) rfl rfl ?_
 refine zX [Pq ak, I al] (I al) rfl rfl ?_
 refine zA (Pq ak) rfl ?_
 refine zA (I al) rfl ?_
 refine s_nil ?_
 refine WD.seq ?_
 refine WD.block ?_
 refine WD.seq ?_
 refine WD.of ?_
 refine W.region rfl ?_
 refine zM (I al) rfl ?_
 refine zC al 0 (al != 0) rfl rfl rfl ?_
 refine zA (B (al != 0)) rfl ?_
 refine s_nil ?_
 refine WD.cond (al != 0) rfl (fun aT => ?_) (fun aT => ?_)
 ·replace hM := M.e_t hM aT
  exact (M.e_fail hM).elim
 replace hM := M.e_f hM aT
 simp only [qy1, qy2, qy3, qy4, qy5, qy6, ne_eq, qy7] at aT
 refine WD.seq ?_
 refine WD.of ?_
 refine W.region rfl ?_
 refine zM (Pq ak) rfl ?_
 refine zM (I station) rfl ?_
 obtain ⟨bO, bo, hM⟩ := M.e_bind hM
 refine s_call cf45 [Pq ak, I station] rfl (zcW au av aw ax aM aN ay station (az.app _) aH (aA.app _) aI (aB.app _) aJ (aC.app _) aK (aD.app _) aL (Has.here (k := 0) rfl) bo _ (H.gt 4)) ?_
 rintro vq bP ⟨r2, bp, hvq, ai⟩
 subst bp
 subst vq
 try dsimp only at hM
 replace H := H.bk ai
 clear ai
 refine s_val (x_not (b := r2) rfl) ?_
 refine zA (B (!r2)) rfl ?_
 refine s_nil ?_
 refine WD.cond (!r2) rfl (fun aX => ?_) (fun aX => ?_)
 ·replace hM := M.e_t hM aX
  refine WD.seq ?_
  refine WD.of ?_
  refine W.region rfl ?_
  refine zA (.slice none 0 0) rfl ?_
  refine zA (I 2) rfl ?_
  refine s_nil ?_
  replace H := H.pk [3]
  refine WD.of ?_
  refine W.ret ?_
  refine bodyD_r (H.pk [0]) ?_
  intro bQ H
  replace H := H.nf
  have aO := M.e_pure hM
  replace H := H.nilOwn (α := Int) 3
  exact ⟨_, resE_tmp2 rfl, ⟨([]), 2, (.slice none 0 0), aO, rfl, H⟩⟩
 replace hM := M.e_f hM aX
 refine WD.of ?_
 refine W.skip ?_
 refine WD.seq ?_
 refine WD.of ?_
 refine W.region rfl ?_
 refine t_alloc (cs := [.slice none 0 0]) H Al23 rfl ?_
 intro am bR H
 refine s_nil ?_
 refine WD.seq ?_
 refine WD.seq ?_
 refine WD.of ?_
 refine W.region rfl ?_
 refine zM (Pq ak) rfl ?_
 refine s_val (x_nc (a := ⟨ak, 0, none⟩) rfl) ?_
 refine s_val (x_fa (a := Pq ak) (v := Pq ak) rfl (fa_blk (o := 0) Fd86_0 Sz30)) ?_
 refine s_val (x_ld (p := Pq ak) (v := .agg #[aa, ab, ac, ae, I aM, I aN, ah]) rfl (ldb_ag (ds := [aa, ab, ac, ae, I aM, I aN, ah]) Ag30 Sz30 (H.bl 1) rfl rfl)) ?_
 refine zM (I station) rfl ?_
 obtain ⟨bS, bq, hM⟩ := M.e_bind hM
 refine s_call cf46 [.agg #[aa, ab, ac, ae, I aM, I aN, ah], I station] rfl (za8 au av aw ax aM aN ay station (az.app _) aH (aA.app _) aI (aB.app _) aJ (aC.app _) aK (aD.app _) aL bq _ (H.gt 5)) ?_
 rintro vq bT ⟨aU, aE, aF, aP, aG, br, hvq, ai⟩
 subst br
 subst vq
 try dsimp only at hM
 replace H := H.bk ai
 clear ai
 refine s_nil ?_
 replace H := H.pk [0, 1, 2, 6]
 refine WD.block ?_
 replace H := H.nilOwn (α := Int) 3
 obtain ⟨bU, bt, hM⟩ := M.e_bind hM
 refine WD.range (L := [cOwn (α := Int) 3 (.slice none 0 0) ([]), cBlk am [(.slice none 0 0)] 23, cBlk aG [aa, ab, ac, ae, I aE, I aF, ah] 30, cBlk aP [I aU] 3]) [Pq aP, Pq aG] (H.pk [4, 0, 3, 2, 1]) rfl cf67 ?_
 intro aV aY aZ bu a8 H
 have hYC : YieldC Try.prog ([cMk (aY :: ([])), cBlk aG [aa, ab, ac, ae, I aE, I aF, ah] 30] ++ R) arII (yJ aV aZ (fun l aW => ∃ (aj : Value), aW = [cOwn (α := Int) 3 aj l, cBlk am [aj] 23]) (fun (_ : Unit) _ => False) (fun _ => .ret)) (.func (.yield aV) #[] #[]) (M.yl zaA) := by
  refine YieldC.mk a8 (fun l aW => ∃ (aj : Value), aW = [cOwn (α := Int) 3 aj l, cBlk am [aj] 23]) (fun (_ : Unit) _ => False) (fun _ => .ret) zaA (by rintro l _ h_; obtain ⟨_, rfl⟩ := h_; rfl) (fun _ _ h_ => h_.elim) rfl (arII_len rfl) ?_
  intro C_ bV x_ W_ bv
  obtain ⟨x, x2⟩ := x_
  obtain rfl := bv
  refine W.region rfl ?_
  refine zA (I x2) rfl ?_
  refine s_nil ?_
  refine ⟨rfl, rfl, ?_⟩
  intro w R aQ aW s_ r bw hM H
  skip
  obtain ⟨l, bx⟩ : ∃ y_, y_ = s_ := ⟨_, rfl⟩
  subst bx
  obtain ⟨aj, rfl⟩ := bw
  replace az := az.sub aQ
  replace aA := aA.sub aQ
  replace aB := aB.sub aQ
  replace aC := aC.sub aQ
  replace aD := aD.sub aQ
  replace hM : (zaA l (x, x2)).Ends r := hM
  simp only [zaA] at hM
  replace H := H.pk [0, 1, 3, 2]
  refine W.block ?_
  refine W.region rfl ?_
  refine s_val (x_ld (p := Pq am) (v := aj) rfl (ldb_sc Sc23 (H.bl 1) rfl)) ?_
  refine zM (I x2) rfl ?_
  refine t_bs (α := Int) T23 [I x2] [(x2 : Int)] H rfl (.cons rfl (Flat.rep_enc _ (x2 : Int)) <| .nil) rfl rfl rfl ?_
  intro bz bW H
  obtain ⟨bA, hM⟩ := M.e_grd hM
  simp only [Bool.and_eq_true, decide_eq_true_eq] at bA
  refine t_app (α := Int) (k := 1) (l := l) (l2 := [(x2 : Int)]) (l' := l ++ ([(x2 : Int)])) (vy := bz) T23 rfl H rfl rfl rfl (H.os 0) (H.ol 0) (rfl) (by first | omega | (simp only [List.length_nil] at *; omega)) ?_
  intro aR bX H
  replace H := H.nf
  refine t_sw 2 0 [aR] aR H rfl rfl Sz23 (Sl.cells (H.os 1)) rfl rfl (by simp only [List.all_cons, List.all_nil, Bool.true_and, Bool.and_true, Sl.oc (H.os 1)]; try rfl) ?_
  intro bY H
  refine s_nil ?_
  exact ⟨l ++ ([(x2 : Int)]), [cOwn (α := Int) 3 aR (l ++ ([(x2 : Int)])), cBlk am [aR] 23], (M.e_pure hM).symm, ⟨aR, rfl⟩, H.pick [1, 2, 4, 3] (by decide) rfl⟩
 replace H : St w bu (cAll (cObj aV (.loop aZ) :: [cOwn (α := Int) 3 (.slice none 0 0) ([]), cBlk am [(.slice none 0 0)] 23]) :: [cBlk aP [I aU] 3, cMk (aY :: ([])), cBlk aG [aa, ab, ac, ae, I aE, I aF, ah] 30]) R := St.bundleB (A := cObj aV (.loop aZ) :: [cOwn (α := Int) 3 (.slice none 0 0) ([]), cBlk am [(.slice none 0 0)] 23]) (T := [cBlk aP [I aU] 3, cMk (aY :: ([])), cBlk aG [aa, ab, ac, ae, I aE, I aF, ah] 30]) rfl (H.pk [0, 2, 3, 5, 1, 4])
 refine (zaP (M.yl zaA) (.inl ([])) aU au av aw ax aE aF ay hYC ⟨_, rfl, ⟨(.slice none 0 0), rfl⟩⟩ (az.app _) aH (aA.app _) aI (aB.app _) aJ (aC.app _) aK (aD.app _) aL (Has.here (k := 1) rfl) bt _ (H.gt 2)).mono ?_
 rintro vq bZ ⟨bB, q0, b4, bC, hvq, ai, bh⟩
 subst bC
 replace H := H.back ai rfl
 clear ai hYC
 rcases bB with l | _
 ·try dsimp only at hM
  obtain ⟨_, rfl, aj, rfl⟩ := bh
  refine ⟨_, [cOwn (α := Int) 3 aj l, cBlk am [aj] 23, cBlk aG [aa, ab, ac, ae, I aE, I aF, ah] 30, cBlk aP [I q0] 3], H.unbundle.pick [0, 4, 1, 2, 5, 3] (by decide) rfl, a8.nb, ?_⟩
  intro b5 H
  rw [a8.pd]
  replace H := H.nf
  try simp only []
  replace H := H.pk [0, 1, 2]
  refine WD.seq ?_
  refine WD.of ?_
  refine W.region rfl ?_
  refine s_val (x_ld (p := Pq am) (v := aj) rfl (ldb_sc Sc23 (H.bl 2) rfl)) ?_
  refine zA aj rfl ?_
  refine zA (I 0) rfl ?_
  refine s_nil ?_
  refine WD.of ?_
  refine W.ret ?_
  refine bodyD_r (H.pk [0, 1, 2]) ?_
  intro b6 H
  replace H := H.nf
  have aO := M.e_pure hM
  exact ⟨_, resE_tmp2 rfl, ⟨l, 0, aj, aO, rfl, (H.pk [0])⟩⟩
 obtain ⟨_, _, h_⟩ := bh; exact h_.elim

def zaZ (r0 : List Int) (ae : List Span) (ah : List Int) (r6 : List Flood) (ai : Int) (aj : Int) (aa : List Town) (ak : Int) (al : List Int) (hour : Int) (k : Nat) (seen : Int) : Nat -> M (Nat ⊕ (Unit ⊕ Unit)) := fun t =>
  bif decide ((t : Int) < (aa.length : Int)) then (
  M.grd (decide ((t : Int) < (aa.length : Int))) <|
  bif ((aa.getD t default).station) != (al.getD k 0) then (
  M.pure (.inl (t + 1)))
  else (
  M.grd ((!(!(decide (seen < 0))) || (decide ((-9223372036854775808 : Int) <= (hour - seen)) && decide ((hour - seen) <= (9223372036854775807 : Int))))) <|
  bif ((decide (seen < 0)) || (decide ((hour - seen) < ((aa.getD t default).lead)))) then (
  M.pure (.inr (.inl ())))
  else (
  M.bind (zbH r0 ae ah aa ai aj r6 ak (t : Int)) fun (ac, am, ab) =>
  M.grd ((!(!(ab != 0)) || (decide ((-9223372036854775808 : Int) <= (hour - seen)) && decide ((hour - seen) <= (9223372036854775807 : Int))))) <|
  M.grd ((!(!((ab != 0) || (decide ((hour - seen) < ac)))) || (decide ((-9223372036854775808 : Int) <= (hour - seen)) && decide ((hour - seen) <= (9223372036854775807 : Int))))) <|
  bif (((ab != 0) || (decide ((hour - seen) < ac))) || (decide (am < (hour - seen)))) then (
  M.pure (.inr (.inl ())))
  else (
  M.pure (.inl (t + 1))))))
  else (
  M.pure (.inr (.inr ())))
def zaR (hours : List UInt8) (r0 : List Int) (ab : List Span) (ac : List Int) (r6 : List Flood) (ae : Int) (ah : Int) (ai : List Town) (aj : Int) (aa : List Int) (hour : Int) (k : Nat) (s : Int) (s2 : Int) (seen : Int) : M ((Int × Int × Int × Int × Nat) ⊕ ((Int × Int) ⊕ (Int × Int))) :=
  M.bind (M.iter (zaZ r0 ab ac r6 ae ah ai aj aa hour k seen) 0) fun x_ => match x_ with
  | (.inl (_ : Unit)) => (
  M.pure (.inr (.inl (s, s2))))
  | (.inr (_ : Unit)) => (
  M.grd (decide ((0 : Int) <= (aa.getD k 0)) && decide ((aa.getD k 0) < (ab.length : Int))) <|
  M.bind (zat hours s s2 ((ab.getD (Int.toNat (aa.getD k 0)) default).lo) ((ab.getD (Int.toNat (aa.getD k 0)) default).hi)) fun (r8, ak, al) =>
  M.grd (decide ((-9223372036854775808 : Int) <= (hour + r8)) && decide ((hour + r8) <= (9223372036854775807 : Int))) <|
  M.pure (.inl (ak, al, hour + r8, seen, k + 1)))
def zaY (hours : List UInt8) (r0 : List Int) (ah : List Span) (ai : List Int) (r6 : List Flood) (ab : Int) (ac : Int) (aj : List Town) (ae : Int) (aa : List Int) : (Int × Int × Int × Int × Nat) -> M ((Int × Int × Int × Int × Nat) ⊕ ((Int × Int) ⊕ (Int × Int))) := fun (s3, s4, hour, seen2, k) =>
  bif decide ((k : Int) < (aa.length : Int)) then (
  M.grd (decide ((k : Int) < (aa.length : Int))) <|
  bif ((decide ((aa.getD k 0) < 0)) || (decide ((r0.length : Int) <= (aa.getD k 0)))) then (
  M.pure (.inr (.inl (s3, s4))))
  else (
  bif (aa.getD k 0) == ae then (
  M.bind (zat hours s3 s4 ab ac) fun (r7, ak, al) =>
  M.grd (decide ((-9223372036854775808 : Int) <= (hour + r7)) && decide ((hour + r7) <= (9223372036854775807 : Int))) <|
  zaR hours r0 ah ai r6 ab ac aj ae aa hour k ak al (hour + r7))
  else (
  zaR hours r0 ah ai r6 ab ac aj ae aa hour k s3 s4 seen2)))
  else (
  M.pure (.inr (.inr (s3, s4))))
def zaU (hours : List UInt8) (r0 : List Int) (ab : List Span) (ac : List Int) (r6 : List Flood) (ae : Int) (ah : Int) (ai : List Town) (ak : List Int) : (Int × Int × Nat) -> M ((Int × Int × Nat) ⊕ ((Int × Int) ⊕ (Int × Int))) := fun (s9, aa, i) =>
  bif decide ((i : Int) < (r6.length : Int)) then (
  M.bind (zbY r0 ab ac ai ae ah r6 ak (i : Int)) fun (al, aq, am) =>
  bif am != 0 then (
  M.pure (.inr (.inl (s9, aa))))
  else (
  M.grd (decide ((i : Int) < (r6.length : Int))) <|
  M.bind (zbp r0 ab ac ai ae ah r6 ((r6.getD i default).spring)) fun (aj, ao) =>
  bif ((ao != 0) || ((aj.length : Int) != (((r6.getD i default).stages).length : Int))) then (
  M.pure (.inr (.inl (s9, aa))))
  else (
  M.bind (M.iter (zaY hours r0 ab ac r6 ae ah ai al aj) (s9, aa, 0, -1, 0)) fun x_ => match x_ with
  | (.inl (s5, s6)) => (
  M.pure (.inr (.inl (s5, s6))))
  | (.inr (s7, s8)) => (
  M.pure (.inl (s7, s8, i + 1))))))
  else (
  M.pure (.inr (.inr (s9, aa))))
def zcE (numbers : List UInt8) (hours : List UInt8) : M Bool :=
  M.bind (zca numbers) fun (r1, r2) =>
  M.bind (zbN numbers r1 r2 12) fun (r0, aa, ab, r3, r4, r5, r6, q1, q2) =>
  M.bind (zbZ r0 aa ab r3 r4 r5 r6) fun (ac, ae, aj, ah) =>
  M.bind (zca hours) fun (ak, al) =>
  M.bind (zaI r0 aa ab ah ac ae r6) fun (ai, am) =>
  M.bind (zbL r0 aa ab ah ac ae r6 ai) fun (ao, aq) =>
  bif ((((!aj) || (am != 0)) || (aq != 0)) || (decide (0 < (ao.length : Int)))) then (
  M.pure false)
  else (
  M.bind (M.iter (zaU hours r0 aa ab r6 ac ae ah ai) (ak, al, 0)) fun x_ => match x_ with
  | (.inl (au, av)) => (
  M.pure false)
  | (.inr (aw, ax)) => (
  M.bind (zcq) fun r9 =>
  M.pure r9))
theorem zdF {R : List Chunk} {bB : Cells} {bg : Value} {bC : Cells} {aK : Value} (numbers : List UInt8) (hours : List UInt8) (bD : Reads R bB) (bE : Sl bB bg numbers) (bm : Reads R bC) (bn : Sl bC aK hours) {r : Bool} (hM : (zcE numbers hours).Ends r) (w : World) (H : St w w [] R) : Ret Try.prog 6 #[bg, aK] w fun v w' => ∃ (y0 : Bool), y0 = r /\ v = B y0 /\ St w w' [] R := by
 refine ret_of_W Try.func6 rfl rfl rfl ?_
 refine W.seq ?_
 refine W.region rfl ?_
 refine zA (B false) rfl ?_
 refine s_nil ?_
 refine W.seq ?_
 refine W.region rfl ?_
 refine zM bg rfl ?_
 obtain ⟨cS, bL, hM⟩ := M.e_bind hM
 refine s_call cf9 [bg] rfl (zcJ numbers (bD.app _) bE bL _ (H.gt 0)) ?_
 rintro vq cT ⟨r1, r2, bM, bN, hvq, au⟩
 subst bN
 subst vq
 try dsimp only at hM
 replace H := H.bk au
 clear au
 obtain ⟨cU, bO, hM⟩ := M.e_bind hM
 refine s_call cf8 [Pq bM, I 12] rfl (zdp numbers r1 r2 12 (bD.app _) bE bO _ (H.gt 0)) ?_
 rintro vq cV ⟨r0, aB, aF, r3, r4, r5, r6, q1, q2, am, ah, ao, bP, ac, aO, aP, bQ, hvq, au, aH⟩
 subst bQ
 subst vq
 try dsimp only at hM
 replace H := H.bk au
 clear au
 obtain ⟨cW, bR, hM⟩ := M.e_bind hM
 refine s_call cf26 [.agg #[am, ah, ao, bP, I r4, I r5, ac]] rfl (zdt r0 aB aF r3 r4 r5 r6 (rdo 0) (H.os 0) (rdo 1) (H.os 1) (rdo 2) (H.os 2) (Reads.sup (rdo 3) (Reads.of (k := 4) rfl roLe)) (rowSl rfl (H.get (k := 4) rfl) (roLe _ (H.get (k := 5) rfl)) aH) bR _ ((H.pk [3, 0, 1, 2, 4, 5, 6]).gt 6)) ?_
 rintro vq cX ⟨ak, al, ay, ax, ae, bS, hvq, au⟩
 subst bS
 subst vq
 try dsimp only at hM
 replace H := H.pk [3, 0, 1, 2, 4, 5, 6] |>.bk au
 clear au
 refine zM (.tuple #[.agg #[am, ah, ao, ae, I ak, I al, ac], B ay]) rfl ?_
 refine zX [.agg #[am, ah, ao, ae, I ak, I al, ac], B ay] (.agg #[am, ah, ao, ae, I ak, I al, ac]) rfl rfl ?_
 refine zX [.agg #[am, ah, ao, ae, I ak, I al, ac], B ay] (B ay) rfl rfl ?_
 refine t_alloc (cs := [.slice none 0 0, .slice none 0 0, .slice none 0 0, .slice none 0 0, I 0, I 0, .slice none 0 0]) H Al30 rfl ?_
 intro ab cY H
 refine t_sw 0 0 [am, ah, ao, ae, I ak, I al, ac] (.agg #[am, ah, ao, ae, I ak, I al, ac]) H rfl rfl Sz30 rfl rfl rfl (by simp only [List.all_cons, List.all_nil, Bool.true_and, Bool.and_true, Sl.oc (H.os 2), Sl.oc (H.os 3), Sl.oc (H.os 4), Sl.oc (H.os 1), Sl.oc (rowSl rfl (H.get (k := 5) rfl) (roLe _ (H.get (k := 6) rfl)) aH)]; try rfl) ?_
 intro cZ H
 refine zA (B ay) rfl ?_
 refine s_nil ?_
 refine W.seq ?_
 refine W.region rfl ?_
 refine zM aK rfl ?_
 obtain ⟨c0, bT, hM⟩ := M.e_bind hM
 refine s_call cf9 [aK] rfl (zcJ hours (bm.app _) bn bT _ (H.gt 8)) ?_
 rintro vq c6 ⟨bU, bV, aG, bW, hvq, au⟩
 subst bW
 subst vq
 try dsimp only at hM
 replace H := H.bk au
 clear au
 refine zA (Pq aG) rfl ?_
 refine s_nil ?_
 refine W.seq ?_
 refine W.region rfl ?_
 refine s_val (x_ld (p := Pq ab) (v := .agg #[am, ah, ao, ae, I ak, I al, ac]) rfl (ldb_ag (ds := [am, ah, ao, ae, I ak, I al, ac]) Ag30 Sz30 (H.bl 1) rfl rfl)) ?_
 obtain ⟨c7, bX, hM⟩ := M.e_bind hM
 refine s_call cf22 [.agg #[am, ah, ao, ae, I ak, I al, ac]] rfl (zbV r0 aB aF ax ak al r6 (rdo 3) (H.os 3) (rdo 4) (H.os 4) (rdo 5) (H.os 5) (rdo 2) (H.os 2) (Reads.sup (rdo 6) (Reads.of (k := 7) rfl roLe)) (rowSl rfl (H.get (k := 6) rfl) (roLe _ (H.get (k := 7) rfl)) aH) bX _ (H.gt 9)) ?_
 rintro vq c8 ⟨aL, aA, aC, bY, hvq, au⟩
 subst bY
 subst vq
 try dsimp only at hM
 replace H := H.bk au
 clear au
 refine zM (.tuple #[aC, I aA]) rfl ?_
 refine zX [aC, I aA] aC rfl rfl ?_
 refine zX [aC, I aA] (I aA) rfl rfl ?_
 refine zA aC rfl ?_
 refine zA (I aA) rfl ?_
 refine s_nil ?_
 refine W.seq ?_
 refine W.region rfl ?_
 refine s_val (x_ld (p := Pq ab) (v := .agg #[am, ah, ao, ae, I ak, I al, ac]) rfl (ldb_ag (ds := [am, ah, ao, ae, I ak, I al, ac]) Ag30 Sz30 (H.bl 2) rfl rfl)) ?_
 refine zM aC rfl ?_
 obtain ⟨c9, bZ, hM⟩ := M.e_bind hM
 refine s_call cf25 [.agg #[am, ah, ao, ae, I ak, I al, ac], aC] rfl (zdG r0 aB aF ax ak al r6 aL (rdo 4) (H.os 4) (rdo 5) (H.os 5) (rdo 6) (H.os 6) (rdo 3) (H.os 3) (Reads.sup (rdo 7) (Reads.of (k := 8) rfl roLe)) (rowSl rfl (H.get (k := 7) rfl) (roLe _ (H.get (k := 8) rfl)) aH) (rdo 0) (H.os 0) bZ _ (H.gt 10)) ?_
 rintro vq da ⟨aT, aD, aR, b4, hvq, au⟩
 subst b4
 subst vq
 try dsimp only at hM
 replace H := H.bk au
 clear au
 refine zM (.tuple #[aR, I aD]) rfl ?_
 refine zX [aR, I aD] aR rfl rfl ?_
 refine zX [aR, I aD] (I aD) rfl rfl ?_
 refine zA aR rfl ?_
 refine zA (I aD) rfl ?_
 refine s_nil ?_
 refine W.seq ?_
 refine W.seq ?_
 refine W.region rfl ?_
 refine zM (B ay) rfl ?_
 refine s_val (x_not (b := ay) rfl) ?_
 refine zM (B (!ay)) rfl ?_
 refine g_val (!(!ay)) (gy_f rfl) (fun hg => x_mv (v := I aA) rfl) ?_
 refine g_val (!(!ay)) (gy_f rfl) (fun hg => x_cmp (kd := .i64) (a := aA) (b := 0) (r := aA != 0) (gd_of (c := !(!ay)) hg (I aA)) rfl rfl) ?_
 refine s_val (x_por (b := !ay) (r := aA != 0) rfl rfl (fun hb => gd_of (c := !(!ay)) (by first | exact hb | (rw [hb]; rfl) | simp_all) (B (aA != 0)))) ?_
 refine zM (B ((!ay) || (aA != 0))) rfl ?_
 refine g_val (!((!ay) || (aA != 0))) (gy_f rfl) (fun hg => x_mv (v := I aD) rfl) ?_
 refine g_val (!((!ay) || (aA != 0))) (gy_f rfl) (fun hg => x_cmp (kd := .i64) (a := aD) (b := 0) (r := aD != 0) (gd_of (c := !((!ay) || (aA != 0))) hg (I aD)) rfl rfl) ?_
 refine s_val (x_por (b := ((!ay) || (aA != 0))) (r := aD != 0) rfl rfl (fun hb => gd_of (c := !((!ay) || (aA != 0))) (by first | exact hb | (rw [hb]; rfl) | simp_all) (B (aD != 0)))) ?_
 refine zM (B (((!ay) || (aA != 0)) || (aD != 0))) rfl ?_
 refine g_val (!(((!ay) || (aA != 0)) || (aD != 0))) (gy_f rfl) (fun hg => x_mv (v := aR) rfl) ?_
 refine g_val (!(((!ay) || (aA != 0)) || (aD != 0))) (gy_f rfl) (fun hg => x_lenS T57.und (gd_of (c := !(((!ay) || (aA != 0)) || (aD != 0))) hg (aR)) (H.os 0)) ?_
 refine g_val (!(((!ay) || (aA != 0)) || (aD != 0))) (gy_f rfl) (fun hg => x_cmp (kd := .i64) (a := (aT.length : Int)) (b := 0) (r := decide (0 < (aT.length : Int))) (gd_of (c := !(((!ay) || (aA != 0)) || (aD != 0))) hg (I (aT.length : Int))) rfl rfl) ?_
 refine s_val (x_por (b := (((!ay) || (aA != 0)) || (aD != 0))) (r := decide (0 < (aT.length : Int))) rfl rfl (fun hb => gd_of (c := !(((!ay) || (aA != 0)) || (aD != 0))) (by first | exact hb | (rw [hb]; rfl) | simp_all) (B (decide (0 < (aT.length : Int)))))) ?_
 refine s_nil ?_
 replace H := H.pk [1, 2, 3, 4, 5, 6, 7, 8, 9]
 refine W.cond ((((!ay) || (aA != 0)) || (aD != 0)) || (decide (0 < (aT.length : Int)))) rfl (fun bo => ?_) (fun bo => ?_)
 ·replace hM := M.e_t hM bo
  refine W.seq ?_
  refine W.region rfl ?_
  refine zA (B false) rfl ?_
  refine s_nil ?_
  replace H := H.pk []
  refine W.ret ?_
  have aI := M.e_pure hM
  exact ⟨_, resE_tmp rfl, ⟨false, aI, rfl, H⟩⟩
 replace hM := M.e_f hM bo
 refine W.skip ?_
 refine W.seq ?_
 refine W.seq ?_
 refine W.region rfl ?_
 refine zA (I 0) rfl ?_
 refine s_nil ?_
 refine W.block ?_
 obtain ⟨b5, bp, aU⟩ := M.e_bind hM
 obtain ⟨bF, bp⟩ := M.e_iter bp
 refine W.loop (fun m σ W => ∃ (s9 : Int) (aW : Int) (i : Nat) (ρ : Env), σ = upds ρ [(5, Pq ab), (7, Pq aG), (8, aC), (12, I (i : Int))] /\ M.iterN (zaU hours r0 aB aF r6 ak al ax aL) m (s9, aW, i) = some b5 /\ St w W [cOwn (α := Int) 3 aC aL, cBlk aG [aK, I s9, I aW] 71, cBlk ab [am, ah, ao, ae, I ak, I al, ac] 30, cOwn (α := Town) 54 ae ax, cOwn (α := Int) 3 am r0, cOwn (α := Span) 27 ah aB, cOwn (α := Int) 3 ao aF, cOwn (α := Raw 1) 67 ac aO, cRo aP] R) ?_ ?_
 ·exact ⟨_, bU, bV, 0, _, upds_of _ _ ⟨rfl, rfl, rfl, rfl, trivial⟩, bp, H⟩
 rintro db σ dc ⟨s9, aW, i, ρ, rfl, bG, H⟩
 obtain ⟨b6, b7, dd, hM, aS⟩ := M.e_iterN bG
 simp only [zaU] at hM
 clear bG
 refine W.seq ?_
 refine W.seq ?_
 refine W.region rfl ?_
 refine zM (I (i : Int)) rfl ?_
 refine s_val (x_fa (a := Pq ab) (v := Oq ab 6) rfl (fa_blk (o := 0) Fd30_5 Sz28)) ?_
 refine s_val (x_ld (p := Oq ab 6) (v := ac) rfl (ldb_sc Sc28 (H.bl 2) rfl)) ?_
 have de := ((rowSl rfl (H.get (k := 7) rfl) (roLe _ (H.get (k := 8) rfl)) aH)).len_le
 refine s_val (x_lenS T28.und rfl (rowSl rfl (H.get (k := 7) rfl) (roLe _ (H.get (k := 8) rfl)) aH)) ?_
 refine zC (i : Int) (r6.length : Int) (decide ((i : Int) < (r6.length : Int))) rfl rfl rfl ?_
 refine s_nil ?_
 refine W.cond (decide ((i : Int) < (r6.length : Int))) rfl (fun aX => ?_) (fun aX => ?_)
 ·replace hM := M.e_t hM aX
  simp only [qy1, qy2, qy3, qy4, qy5, qy6, ne_eq, qy7] at aX
  refine W.skip ?_
  refine W.seq ?_
  refine W.block ?_
  refine W.seq ?_
  refine W.region rfl ?_
  refine s_val (x_ld (p := Pq ab) (v := .agg #[am, ah, ao, ae, I ak, I al, ac]) rfl (ldb_ag (ds := [am, ah, ao, ae, I ak, I al, ac]) Ag30 Sz30 (H.bl 2) rfl rfl)) ?_
  refine zM aC rfl ?_
  refine zM (I (i : Int)) rfl ?_
  obtain ⟨dg, b8, hM⟩ := M.e_bind hM
  refine s_call cf13 [.agg #[am, ah, ao, ae, I ak, I al, ac], aC, I (i : Int)] rfl (zdd r0 aB aF ax ak al r6 aL (i : Int) (rdo 4) (H.os 4) (rdo 5) (H.os 5) (rdo 6) (H.os 6) (rdo 3) (H.os 3) (Reads.sup (rdo 7) (Reads.of (k := 8) rfl roLe)) (rowSl rfl (H.get (k := 7) rfl) (roLe _ (H.get (k := 8) rfl)) aH) (rdo 0) (H.os 0) b8 _ (H.gt 9)) ?_
  rintro vq di ⟨aE, aV, aM, b9, hvq, au⟩
  subst b9
  subst vq
  try dsimp only at hM
  replace H := H.bk au
  clear au
  refine zM (.tuple #[I aE, B aV, I aM]) rfl ?_
  refine zX [I aE, B aV, I aM] (I aE) rfl rfl ?_
  refine zX [I aE, B aV, I aM] (B aV) rfl rfl ?_
  refine zX [I aE, B aV, I aM] (I aM) rfl rfl ?_
  refine zA (I aE) rfl ?_
  refine zA (B aV) rfl ?_
  refine zA (I aM) rfl ?_
  refine s_nil ?_
  refine W.seq ?_
  refine W.seq ?_
  refine W.region rfl ?_
  refine zM (I aM) rfl ?_
  refine zC aM 0 (aM != 0) rfl rfl rfl ?_
  refine s_nil ?_
  refine W.cond (aM != 0) rfl (fun aY => ?_) (fun aY => ?_)
  ·replace hM := M.e_t hM aY
   simp only [qy1, qy2, qy3, qy4, qy5, qy6, ne_eq, qy7] at aY
   refine W.seq ?_
   refine W.region rfl ?_
   refine zA (B false) rfl ?_
   refine s_nil ?_
   refine W.ret ?_
   have ca := M.e_inr hM aS
   subst ca
   replace hM := aU
   try dsimp only at hM
   have aI := M.e_pure hM
   exact ⟨_, resE_tmp rfl, ⟨false, aI, rfl, (H.pk [])⟩⟩
  replace hM := M.e_f hM aY
  simp only [qy1, qy2, qy3, qy4, qy5, qy6, ne_eq, qy7] at aY
  refine W.skip ?_
  refine W.seq ?_
  refine W.draw (fun W => St w W [cOwn (α := Int) 3 aC aL, cBlk aG [aK, I s9, I aW] 71, cBlk ab [am, ah, ao, ae, I ak, I al, ac] 30, cOwn (α := Town) 54 ae ax, cOwn (α := Int) 3 am r0, cOwn (α := Span) 27 ah aB, cOwn (α := Int) 3 ao aF, cOwn (α := Raw 1) 67 ac aO, cRo aP] R) [(0, true), (1, true), (2, true), (3, true), (4, true), (5, true), (6, true), (7, false), (8, true), (9, true), (10, true), (11, true), (12, true)] mixed (by decide +kernel) rfl ?_
  intro dk ai
  replace H := H.ext ai
  clear ai
  refine ⟨(H.pk [0, 1, 2, 3, 4, 5, 6, 7, 8]), ?_⟩
  refine d_q rfl (fun w' H => x_ld (p := Pq ab) (v := .agg #[am, ah, ao, ae, I ak, I al, ac]) rfl (ldb_ag (ds := [am, ah, ao, ae, I ak, I al, ac]) Ag30 Sz30 (H.bl 2) rfl rfl)) ?_
  refine d_q rfl (fun w' H => x_fa (a := Pq ab) (v := Oq ab 6) rfl (fa_blk (o := 0) Fd30_5 Sz28)) ?_
  refine d_q rfl (fun w' H => x_ld (p := Oq ab 6) (v := ac) rfl (ldb_sc Sc28 (H.bl 2) rfl)) ?_
  refine d_q rfl (fun w' H => x_mv (v := I (i : Int)) rfl) ?_
  obtain ⟨cb, hM⟩ := M.e_grd hM
  simp only [Bool.and_eq_true, decide_eq_true_eq] at cb
  refine d_q rfl (fun w' H => x_ix (a := ac) (b := I (i : Int)) (v := vat ac 2 (Int.toNat (i : Int))) rfl rfl (Sl.ix (α := Flood) T28.und T28.size (rowSl rfl (H.get (k := 7) rfl) (roLe _ (H.get (k := 8) rfl)) aH) (by omega) (by omega))) ?_
  refine d_q rfl (fun w' H => x_fa (a := vat ac 2 (Int.toNat (i : Int))) (v := fat (vat ac 2 (Int.toNat (i : Int))) 0) rfl (fa_pl Fd67_0 Sz3 (Sl.pl (i := (i : Int)) (rowSl rfl (H.get (k := 7) rfl) (roLe _ (H.get (k := 8) rfl)) aH) (by omega) (by omega)))) ?_
  refine d_q rfl (fun w' H => x_ld (p := fat (vat ac 2 (Int.toNat (i : Int))) 0) (v := I ((r6.getD i default).spring)) rfl (ld_sc Sc3 (At.mono (Flood_at0 (rowSl rfl (H.get (k := 7) rfl) (roLe _ (H.get (k := 8) rfl)) aH) (i := (i : Int)) (by omega) (by omega)) (Cells.sup_le (H.ol 7) (roLe _ (H.get (k := 8) rfl)))))) ?_
  refine d_l rfl ?_
  obtain ⟨dm, cc, hM⟩ := M.e_bind hM
  refine s_call cf17 [.agg #[am, ah, ao, ae, I ak, I al, ac], I ((r6.getD i default).spring)] rfl (zdL r0 aB aF ax ak al r6 ((r6.getD i default).spring) (rdo 4) (H.os 4) (rdo 5) (H.os 5) (rdo 6) (H.os 6) (rdo 3) (H.os 3) (Reads.sup (rdo 7) (Reads.of (k := 8) rfl roLe)) (rowSl rfl (H.get (k := 7) rfl) (roLe _ (H.get (k := 8) rfl)) aH) cc _ (H.gt 9)) ?_
  rintro vq dq ⟨aa, aw, aj, cd, hvq, au⟩
  subst cd
  subst vq
  try dsimp only at hM
  replace H := H.bk au
  clear au
  have dr := Sl.cells (H.os 0)
  have dt := Sl.oc (H.os 0)
  refine s_nil ⟨(H.pk [1, 2, 3, 4, 5, 6, 7, 8, 9]), ?_⟩
  refine d_q rfl (fun w' H => x_mv (v := .tuple #[aj, I aw]) rfl) ?_
  refine d_q rfl (fun w' H => x_ext (vs := [aj, I aw]) (v := aj) rfl rfl) ?_
  refine d_q rfl (fun w' H => x_ext (vs := [aj, I aw]) (v := I aw) rfl rfl) ?_
  refine d_q rfl (fun w' H => x_as (v := aj) rfl) ?_
  refine d_q rfl (fun w' H => x_as (v := I aw) rfl) ?_
  refine d_nil ?_
  refine W.seq ?_
  refine W.seq ?_
  refine W.region rfl ?_
  refine zM (I aw) rfl ?_
  refine zC aw 0 (aw != 0) rfl rfl rfl ?_
  refine zM (B (aw != 0)) rfl ?_
  refine g_val (!(aw != 0)) (gy_f rfl) (fun hg => x_mv (v := aj) rfl) ?_
  refine g_val (!(aw != 0)) (gy_f rfl) (fun hg => x_lenS T23.und (gd_of (c := !(aw != 0)) hg (aj)) (H.os 0)) ?_
  refine g_val (!(aw != 0)) (gy_f rfl) (fun hg => x_fa (a := Pq ab) (v := Oq ab 6) rfl (fa_blk (o := 0) Fd30_5 Sz28)) ?_
  refine g_val (!(aw != 0)) (gy_f rfl) (fun hg => x_ld (p := Oq ab 6) (v := ac) (gd_of (c := !(aw != 0)) hg (Oq ab 6)) (ldb_sc Sc28 (H.bl 3) rfl)) ?_
  refine g_val (!(aw != 0)) (gy_f rfl) (fun hg => x_mv (v := I (i : Int)) rfl) ?_
  refine g_val (!(aw != 0)) (gy_f rfl) (fun hg => x_ix (a := ac) (b := I (i : Int)) (v := vat ac 2 (Int.toNat (i : Int))) (gd_of (c := !(aw != 0)) hg (ac)) (gd_of (c := !(aw != 0)) hg (I (i : Int))) (Sl.ix (α := Flood) T28.und T28.size (rowSl rfl (H.get (k := 8) rfl) (roLe _ (H.get (k := 9) rfl)) aH) (by first | omega | (have ai := hg; simp at ai; omega)) (by first | omega | (have ai := hg; simp at ai; omega)))) ?_
  refine g_val (!(aw != 0)) (gy_f rfl) (fun hg => x_fa (a := vat ac 2 (Int.toNat (i : Int))) (v := fat (vat ac 2 (Int.toNat (i : Int))) 1) (gd_of (c := !(aw != 0)) hg (vat ac 2 (Int.toNat (i : Int)))) (fa_pl Fd67_1 Sz23 (Sl.pl (i := (i : Int)) (rowSl rfl (H.get (k := 8) rfl) (roLe _ (H.get (k := 9) rfl)) aH) (by first | omega | (have ai := hg; simp at ai; omega)) (by first | omega | (have ai := hg; simp at ai; omega))))) ?_
  obtain ⟨bq, ce, br⟩ := gd_ex (c := !(aw != 0)) fun hg => Flood_at1 (rowSl rfl (H.get (k := 8) rfl) (roLe _ (H.get (k := 9) rfl)) aH) (i := (i : Int)) (by first | omega | (have ai := hg; simp at ai; omega)) (by first | omega | (have ai := hg; simp at ai; omega))
  replace br : (!(aw != 0)) = true -> Sl _ bq (r6.getD i default).stages := br
  refine g_val (!(aw != 0)) (gy_f rfl) (fun hg => x_ld (p := fat (vat ac 2 (Int.toNat (i : Int))) 1) (v := bq) (gd_of (c := !(aw != 0)) hg (fat (vat ac 2 (Int.toNat (i : Int))) 1)) (ld_sc Sc23 (At.mono (ce hg) (Cells.sup_le (H.ol 8) (roLe _ (H.get (k := 9) rfl)))))) ?_
  refine g_val (!(aw != 0)) (gy_f rfl) (fun hg => x_lenS T23.und (gd_of (c := !(aw != 0)) hg (bq)) (br hg)) ?_
  refine g_val (!(aw != 0)) (gy_f rfl) (fun hg => x_cmp (kd := .i64) (a := (aa.length : Int)) (b := (((r6.getD i default).stages).length : Int)) (r := (aa.length : Int) != (((r6.getD i default).stages).length : Int)) (gd_of (c := !(aw != 0)) hg (I (aa.length : Int))) (gd_of (c := !(aw != 0)) hg (I (((r6.getD i default).stages).length : Int))) rfl) ?_
  refine s_val (x_por (b := aw != 0) (r := (aa.length : Int) != (((r6.getD i default).stages).length : Int)) rfl rfl (fun hb => gd_of (c := !(aw != 0)) (by first | exact hb | (rw [hb]; rfl) | simp_all) (B ((aa.length : Int) != (((r6.getD i default).stages).length : Int))))) ?_
  refine s_nil ?_
  refine W.cond ((aw != 0) || ((aa.length : Int) != (((r6.getD i default).stages).length : Int))) rfl (fun bt => ?_) (fun bt => ?_)
  ·replace hM := M.e_t hM bt
   refine W.seq ?_
   refine W.region rfl ?_
   refine zA (B false) rfl ?_
   refine s_nil ?_
   refine W.ret ?_
   have cf := M.e_inr hM aS
   subst cf
   replace hM := aU
   try dsimp only at hM
   have aI := M.e_pure hM
   exact ⟨_, resE_tmp rfl, ⟨false, aI, rfl, (H.pk [])⟩⟩
  replace hM := M.e_f hM bt
  refine W.skip ?_
  refine W.seq ?_
  refine W.region rfl ?_
  refine zA (I 0) rfl ?_
  refine zA (I (-1)) rfl ?_
  refine s_nil ?_
  refine W.seq ?_
  refine W.region rfl ?_
  refine zA (I 0) rfl ?_
  refine s_nil ?_
  refine W.block ?_
  obtain ⟨cg, bu, bh⟩ := M.e_bind hM
  obtain ⟨bF, bu⟩ := M.e_iter bu
  refine W.loop (fun m σ W => ∃ (s3 : Int) (s4 : Int) (hour : Int) (seen2 : Int) (k : Nat) (ρ : Env), σ = upds ρ [(5, Pq ab), (7, Pq aG), (8, aC), (12, I (i : Int)), (13, I aE), (16, aj), (17, I hour), (18, I seen2), (19, I (k : Int))] /\ M.iterN (zaY hours r0 aB aF r6 ak al ax aE aa) m (s3, s4, hour, seen2, k) = some cg /\ St w W [cOwn (α := Int) 3 aj aa, cOwn (α := Int) 3 aC aL, cBlk aG [aK, I s3, I s4] 71, cBlk ab [am, ah, ao, ae, I ak, I al, ac] 30, cOwn (α := Town) 54 ae ax, cOwn (α := Int) 3 am r0, cOwn (α := Span) 27 ah aB, cOwn (α := Int) 3 ao aF, cOwn (α := Raw 1) 67 ac aO, cRo aP] R) ?_ ?_
  ·exact ⟨_, s9, aW, 0, -1, 0, _, upds_of _ _ ⟨rfl, rfl, rfl, rfl, rfl, rfl, rfl, rfl, rfl, trivial⟩, bu, H⟩
  rintro du σ dv ⟨s3, s4, hour, seen2, k, ρ, rfl, bH, H⟩
  obtain ⟨ch, ck, cl, hM, aZ⟩ := M.e_iterN bH
  simp only [zaY] at hM
  clear bH
  refine W.seq ?_
  refine W.seq ?_
  refine W.region rfl ?_
  refine zM (I (k : Int)) rfl ?_
  refine zM aj rfl ?_
  have dw := ((H.os 0)).len_le
  refine s_val (x_lenS T23.und rfl (H.os 0)) ?_
  refine zC (k : Int) (aa.length : Int) (decide ((k : Int) < (aa.length : Int))) rfl rfl rfl ?_
  refine s_nil ?_
  refine W.cond (decide ((k : Int) < (aa.length : Int))) rfl (fun a8 => ?_) (fun a8 => ?_)
  ·replace hM := M.e_t hM a8
   simp only [qy1, qy2, qy3, qy4, qy5, qy6, ne_eq, qy7] at a8
   refine W.skip ?_
   refine W.seq ?_
   refine W.block ?_
   refine W.seq ?_
   refine W.seq ?_
   refine W.draw (fun W => St w W [cOwn (α := Int) 3 aj aa, cOwn (α := Int) 3 aC aL, cBlk aG [aK, I s3, I s4] 71, cBlk ab [am, ah, ao, ae, I ak, I al, ac] 30, cOwn (α := Town) 54 ae ax, cOwn (α := Int) 3 am r0, cOwn (α := Span) 27 ah aB, cOwn (α := Int) 3 ao aF, cOwn (α := Raw 1) 67 ac aO, cRo aP] R) [(0, true), (1, true), (2, true), (3, true), (4, true), (5, true), (6, true), (7, true), (8, true), (9, true), (10, true), (11, true), (12, true), (13, true), (14, true)] mixed (by decide +kernel) rfl ?_
   intro dx ai
   replace H := H.ext ai
   clear ai
   refine ⟨(H.pk [0, 1, 2, 3, 4, 5, 6, 7, 8, 9]), ?_⟩
   refine d_q rfl (fun w' H => x_mv (v := aj) rfl) ?_
   refine d_q rfl (fun w' H => x_mv (v := I (k : Int)) rfl) ?_
   obtain ⟨cm, hM⟩ := M.e_grd hM
   simp only [Bool.and_eq_true, decide_eq_true_eq] at cm
   refine d_q rfl (fun w' H => x_ix (a := aj) (b := I (k : Int)) (v := vat aj 1 (Int.toNat (k : Int))) rfl rfl (Sl.ix (α := Int) T23.und T23.size (H.os 0) (by omega) (by omega))) ?_
   refine d_q rfl (fun w' H => x_ld (p := vat aj 1 (Int.toNat (k : Int))) (v := I (aa.getD k 0)) rfl (ld_sc Sc3 (At.mono (Int_at (H.os 0) (i := (k : Int)) (by omega) (by omega)) (H.ol 0)))) ?_
   refine d_q rfl (fun w' H => x_cmp (kd := .i64) (a := aa.getD k 0) (b := 0) (r := decide ((aa.getD k 0) < 0)) rfl rfl rfl) ?_
   refine d_q rfl (fun w' H => x_mv (v := B (decide ((aa.getD k 0) < 0))) rfl) ?_
   refine d_qg (!(decide ((aa.getD k 0) < 0))) rfl (gy_f rfl) (fun hg => (fun w' H => x_mv (v := aj) rfl)) ?_
   refine d_qg (!(decide ((aa.getD k 0) < 0))) rfl (gy_f rfl) (fun hg => (fun w' H => x_mv (v := I (k : Int)) rfl)) ?_
   refine d_qg (!(decide ((aa.getD k 0) < 0))) rfl (gy_f rfl) (fun hg => (fun w' H => x_ix (a := aj) (b := I (k : Int)) (v := vat aj 1 (Int.toNat (k : Int))) (gd_of (c := !(decide ((aa.getD k 0) < 0))) hg (aj)) (gd_of (c := !(decide ((aa.getD k 0) < 0))) hg (I (k : Int))) (Sl.ix (α := Int) T23.und T23.size (H.os 0) (by first | omega | (have ai := hg; simp at ai; omega)) (by first | omega | (have ai := hg; simp at ai; omega))))) ?_
   refine d_qg (!(decide ((aa.getD k 0) < 0))) rfl (gy_f rfl) (fun hg => (fun w' H => x_ld (p := vat aj 1 (Int.toNat (k : Int))) (v := I (aa.getD k 0)) (gd_of (c := !(decide ((aa.getD k 0) < 0))) hg (vat aj 1 (Int.toNat (k : Int)))) (ld_sc Sc3 (At.mono (Int_at (H.os 0) (i := (k : Int)) (by first | omega | (have ai := hg; simp at ai; omega)) (by first | omega | (have ai := hg; simp at ai; omega))) (H.ol 0))))) ?_
   refine d_qg (!(decide ((aa.getD k 0) < 0))) rfl (gy_f rfl) (fun hg => (fun w' H => x_fa (a := Pq ab) (v := Pq ab) rfl (fa_blk (o := 0) Fd30_0 Sz23))) ?_
   refine d_qg (!(decide ((aa.getD k 0) < 0))) rfl (gy_f rfl) (fun hg => (fun w' H => x_ld (p := Pq ab) (v := am) (gd_of (c := !(decide ((aa.getD k 0) < 0))) hg (Pq ab)) (ldb_sc Sc23 (H.bl 3) rfl))) ?_
   refine d_qg (!(decide ((aa.getD k 0) < 0))) rfl (gy_f rfl) (fun hg => (fun w' H => x_lenS T23.und (gd_of (c := !(decide ((aa.getD k 0) < 0))) hg (am)) (H.os 5))) ?_
   refine d_qg (!(decide ((aa.getD k 0) < 0))) rfl (gy_f rfl) (fun hg => (fun w' H => x_cmp (kd := .i64) (a := aa.getD k 0) (b := (r0.length : Int)) (r := decide ((r0.length : Int) <= (aa.getD k 0))) (gd_of (c := !(decide ((aa.getD k 0) < 0))) hg (I (aa.getD k 0))) (gd_of (c := !(decide ((aa.getD k 0) < 0))) hg (I (r0.length : Int))) rfl)) ?_
   refine d_q rfl (fun w' H => x_por (b := decide ((aa.getD k 0) < 0)) (r := decide ((r0.length : Int) <= (aa.getD k 0))) rfl rfl (fun hb => gd_of (c := !(decide ((aa.getD k 0) < 0))) (by first | exact hb | (rw [hb]; rfl) | simp_all) (B (decide ((r0.length : Int) <= (aa.getD k 0)))))) ?_
   refine d_nil ?_
   refine W.cond ((decide ((aa.getD k 0) < 0)) || (decide ((r0.length : Int) <= (aa.getD k 0)))) rfl (fun bv => ?_) (fun bv => ?_)
   ·replace hM := M.e_t hM bv
    refine W.seq ?_
    refine W.region rfl ?_
    refine zA (B false) rfl ?_
    refine s_nil ?_
    refine W.ret ?_
    have cn := M.e_inr hM aZ
    subst cn
    replace hM := bh
    try dsimp only at hM
    have co := M.e_inr hM aS
    subst co
    replace hM := aU
    try dsimp only at hM
    have aI := M.e_pure hM
    exact ⟨_, resE_tmp rfl, ⟨false, aI, rfl, (H.pk [])⟩⟩
   replace hM := M.e_f hM bv
   refine W.skip ?_
   refine W.seqJ (fun σ W => ∃ (s : Int) (s2 : Int) (seen : Int) (ρ : Env), σ = upds ρ [(5, Pq ab), (7, Pq aG), (8, aC), (12, I (i : Int)), (13, I aE), (16, aj), (17, I hour), (18, I seen), (19, I (k : Int))] /\ (zaR hours r0 aB aF r6 ak al ax aE aa hour k s s2 seen).Ends cl /\ St w W [cBlk aG [aK, I s, I s2] 71, cOwn (α := Int) 3 aj aa, cOwn (α := Int) 3 aC aL, cBlk ab [am, ah, ao, ae, I ak, I al, ac] 30, cOwn (α := Town) 54 ae ax, cOwn (α := Int) 3 am r0, cOwn (α := Span) 27 ah aB, cOwn (α := Int) 3 ao aF, cOwn (α := Raw 1) 67 ac aO, cRo aP] R) ?_ ?_
   ·skip
    refine W.seq ?_
    refine W.region rfl ?_
    refine zM aj rfl ?_
    refine zM (I (k : Int)) rfl ?_
    refine s_val (x_ix (a := aj) (b := I (k : Int)) (v := vat aj 1 (Int.toNat (k : Int))) rfl rfl (Sl.ix (α := Int) T23.und T23.size (H.os 0) (by omega) (by omega))) ?_
    refine s_val (x_ld (p := vat aj 1 (Int.toNat (k : Int))) (v := I (aa.getD k 0)) rfl (ld_sc Sc3 (At.mono (Int_at (H.os 0) (i := (k : Int)) (by omega) (by omega)) (H.ol 0)))) ?_
    refine zM (I aE) rfl ?_
    refine zC (aa.getD k 0) aE ((aa.getD k 0) == aE) rfl rfl rfl ?_
    refine s_nil ?_
    refine W.cond ((aa.getD k 0) == aE) rfl (fun ba => ?_) (fun ba => ?_)
    ·replace hM := M.e_t hM ba
     simp only [qy1, qy2, qy3, qy4, qy5, qy6, ne_eq, qy7] at ba
     refine W.region rfl ?_
     refine zM (I hour) rfl ?_
     refine zM (Pq aG) rfl ?_
     refine s_val (x_fa (a := Pq ab) (v := Oq ab 4) rfl (fa_blk (o := 0) Fd30_4 Sz27)) ?_
     refine s_val (x_fa (a := Oq ab 4) (v := Oq ab 4) rfl (fa_blk (o := 4) Fd27_0 Sz3)) ?_
     refine s_val (x_ld (p := Oq ab 4) (v := I ak) rfl (ldb_sc Sc3 (H.bl 3) rfl)) ?_
     refine s_val (x_fa (a := Pq ab) (v := Oq ab 4) rfl (fa_blk (o := 0) Fd30_4 Sz27)) ?_
     refine s_val (x_fa (a := Oq ab 4) (v := Oq ab 5) rfl (fa_blk (o := 4) Fd27_1 Sz3)) ?_
     refine s_val (x_ld (p := Oq ab 5) (v := I al) rfl (ldb_sc Sc3 (H.bl 3) rfl)) ?_
     obtain ⟨dy, cp, hM⟩ := M.e_bind hM
     refine s_call cf27 [Pq aG, I ak, I al] rfl (zar hours s3 s4 ak al (bm.app _) bn cp _ ((H.pk [2, 0, 1, 3, 4, 5, 6, 7, 8, 9]).gt 9)) ?_
     rintro vq dz ⟨r7, cq, ct, cu, hvq, au⟩
     subst cu
     subst vq
     try dsimp only at hM
     replace H := H.pk [2, 0, 1, 3, 4, 5, 6, 7, 8, 9] |>.bk au
     clear au
     obtain ⟨cw, hM⟩ := M.e_grd hM
     simp only [Bool.and_eq_true, decide_eq_true_eq] at cw
     refine zR hour r7 (hour + r7) rfl rfl rfl (by omega) ?_
     refine zA (I (hour + r7)) rfl ?_
     refine s_nil ?_
     exact ⟨cq, ct, hour + r7, _, upds_of _ _ ⟨rfl, rfl, rfl, rfl, rfl, rfl, rfl, rfl, rfl, trivial⟩, hM, H⟩
    replace hM := M.e_f hM ba
    simp only [qy1, qy2, qy3, qy4, qy5, qy6, ne_eq, qy7] at ba
    refine W.skip ?_
    exact ⟨s3, s4, seen2, _, upds_of _ _ ⟨rfl, rfl, rfl, rfl, rfl, rfl, rfl, rfl, rfl, trivial⟩, hM, (H.pk [2, 0, 1, 3, 4, 5, 6, 7, 8, 9])⟩
   rintro _ dA ⟨s, s2, seen, ρ, rfl, hM, H⟩
   unfold zaR at hM
   refine W.seq ?_
   refine W.seq ?_
   refine W.region rfl ?_
   refine zA (I 0) rfl ?_
   refine s_nil ?_
   refine W.block ?_
   obtain ⟨cx, bw, bx⟩ := M.e_bind hM
   obtain ⟨bF, bw⟩ := M.e_iter bw
   refine W.loop (fun m σ W => ∃ (t : Nat) (ρ : Env), σ = upds ρ [(5, Pq ab), (7, Pq aG), (8, aC), (12, I (i : Int)), (13, I aE), (16, aj), (17, I hour), (18, I seen), (19, I (k : Int)), (20, I (t : Int))] /\ M.iterN (zaZ r0 aB aF r6 ak al ax aE aa hour k seen) m t = some cx /\ St w W [cBlk aG [aK, I s, I s2] 71, cOwn (α := Int) 3 aj aa, cOwn (α := Int) 3 aC aL, cBlk ab [am, ah, ao, ae, I ak, I al, ac] 30, cOwn (α := Town) 54 ae ax, cOwn (α := Int) 3 am r0, cOwn (α := Span) 27 ah aB, cOwn (α := Int) 3 ao aF, cOwn (α := Raw 1) 67 ac aO, cRo aP] R) ?_ ?_
   ·exact ⟨_, 0, _, upds_of _ _ ⟨rfl, rfl, rfl, rfl, rfl, rfl, rfl, rfl, rfl, rfl, trivial⟩, bw, H⟩
   rintro dB σ dC ⟨t, ρ, rfl, bI, H⟩
   obtain ⟨bJ, bK, dD, hM, bb⟩ := M.e_iterN bI
   simp only [zaZ] at hM
   clear bI
   refine W.seq ?_
   refine W.seq ?_
   refine W.region rfl ?_
   refine zM (I (t : Int)) rfl ?_
   refine s_val (x_fa (a := Pq ab) (v := Oq ab 3) rfl (fa_blk (o := 0) Fd30_3 Sz25)) ?_
   refine s_val (x_ld (p := Oq ab 3) (v := ae) rfl (ldb_sc Sc25 (H.bl 3) rfl)) ?_
   have dE := ((H.os 4)).len_le
   refine s_val (x_lenS T25.und rfl (H.os 4)) ?_
   refine zC (t : Int) (ax.length : Int) (decide ((t : Int) < (ax.length : Int))) rfl rfl rfl ?_
   refine s_nil ?_
   refine W.cond (decide ((t : Int) < (ax.length : Int))) rfl (fun bc => ?_) (fun bc => ?_)
   ·replace hM := M.e_t hM bc
    simp only [qy1, qy2, qy3, qy4, qy5, qy6, ne_eq, qy7] at bc
    refine W.skip ?_
    refine W.seq ?_
    refine W.block ?_
    refine W.seq ?_
    refine W.seq ?_
    refine W.draw (fun W => St w W [cBlk aG [aK, I s, I s2] 71, cOwn (α := Int) 3 aj aa, cOwn (α := Int) 3 aC aL, cBlk ab [am, ah, ao, ae, I ak, I al, ac] 30, cOwn (α := Town) 54 ae ax, cOwn (α := Int) 3 am r0, cOwn (α := Span) 27 ah aB, cOwn (α := Int) 3 ao aF, cOwn (α := Raw 1) 67 ac aO, cRo aP] R) [(0, true), (1, true), (2, true), (3, true), (4, true), (5, true), (6, true), (7, true), (8, true), (9, true), (10, true)] mixed (by decide +kernel) rfl ?_
    intro dF ai
    replace H := H.ext ai
    clear ai
    refine ⟨(H.pk [0, 1, 2, 3, 4, 5, 6, 7, 8, 9]), ?_⟩
    refine d_q rfl (fun w' H => x_fa (a := Pq ab) (v := Oq ab 3) rfl (fa_blk (o := 0) Fd30_3 Sz25)) ?_
    refine d_q rfl (fun w' H => x_ld (p := Oq ab 3) (v := ae) rfl (ldb_sc Sc25 (H.bl 3) rfl)) ?_
    refine d_q rfl (fun w' H => x_mv (v := I (t : Int)) rfl) ?_
    obtain ⟨cy, hM⟩ := M.e_grd hM
    simp only [Bool.and_eq_true, decide_eq_true_eq] at cy
    refine d_q rfl (fun w' H => x_ix (a := ae) (b := I (t : Int)) (v := vat ae 3 (Int.toNat (t : Int))) rfl rfl (Sl.ix (α := Town) T25.und T25.size (H.os 4) (by omega) (by omega))) ?_
    refine d_q rfl (fun w' H => x_fa (a := vat ae 3 (Int.toNat (t : Int))) (v := fat (vat ae 3 (Int.toNat (t : Int))) 0) rfl (fa_pl Fd54_0 Sz3 (Sl.pl (i := (t : Int)) (H.os 4) (by omega) (by omega)))) ?_
    refine d_q rfl (fun w' H => x_ld (p := fat (vat ae 3 (Int.toNat (t : Int))) 0) (v := I ((ax.getD t default).station)) rfl (ld_sc Sc3 (At.mono (Town_at0 (H.os 4) (i := (t : Int)) (by omega) (by omega)) (H.ol 4)))) ?_
    refine d_q rfl (fun w' H => x_mv (v := aj) rfl) ?_
    refine d_q rfl (fun w' H => x_mv (v := I (k : Int)) rfl) ?_
    refine d_q rfl (fun w' H => x_ix (a := aj) (b := I (k : Int)) (v := vat aj 1 (Int.toNat (k : Int))) rfl rfl (Sl.ix (α := Int) T23.und T23.size (H.os 1) (by omega) (by omega))) ?_
    refine d_q rfl (fun w' H => x_ld (p := vat aj 1 (Int.toNat (k : Int))) (v := I (aa.getD k 0)) rfl (ld_sc Sc3 (At.mono (Int_at (H.os 1) (i := (k : Int)) (by omega) (by omega)) (H.ol 1)))) ?_
    refine d_q rfl (fun w' H => x_cmp (kd := .i64) (a := (ax.getD t default).station) (b := aa.getD k 0) (r := ((ax.getD t default).station) != (aa.getD k 0)) rfl rfl rfl) ?_
    refine d_nil ?_
    refine W.cond (((ax.getD t default).station) != (aa.getD k 0)) rfl (fun bf => ?_) (fun bf => ?_)
    ·replace hM := M.e_t hM bf
     simp only [qy1, qy2, qy3, qy4, qy5, qy6, ne_eq, qy7] at bf
     refine W.exit ?_
     refine W.region rfl ?_
     refine zM (I (t : Int)) rfl ?_
     refine zR (t : Int) 1 ((t : Int) + 1) rfl rfl rfl (by omega) ?_
     refine zA (I ((t : Int) + 1)) rfl ?_
     refine s_nil ?_
     exact ⟨bJ, bK, t + 1, _, upds_of _ _ ⟨rfl, rfl, rfl, rfl, rfl, rfl, rfl, rfl, rfl, rfl, trivial⟩, M.e_inl hM bb, H⟩
    replace hM := M.e_f hM bf
    simp only [qy1, qy2, qy3, qy4, qy5, qy6, ne_eq, qy7] at bf
    refine W.skip ?_
    refine W.seq ?_
    refine W.seq ?_
    refine W.region rfl ?_
    refine zM (I seen) rfl ?_
    refine zC seen 0 (decide (seen < 0)) rfl rfl rfl ?_
    refine zM (B (decide (seen < 0))) rfl ?_
    refine g_val (!(decide (seen < 0))) (gy_f rfl) (fun hg => x_mv (v := I hour) rfl) ?_
    refine g_val (!(decide (seen < 0))) (gy_f rfl) (fun hg => x_mv (v := I seen) rfl) ?_
    obtain ⟨aN, hM⟩ := M.e_grd hM
    replace aN := M.imp_of aN
    simp only [Bool.and_eq_true, decide_eq_true_eq] at aN
    refine g_val (!(decide (seen < 0))) (gy_f rfl) (fun hg => x_ari (a := hour) (b := seen) (r := hour - seen) (gd_of (c := !(decide (seen < 0))) hg (I hour)) (gd_of (c := !(decide (seen < 0))) hg (I seen)) rfl (by have av := aN.resolve_left (by rw [hg]; decide); first | exact av | exact av.1 | exact av.2 | omega | (have ai := hg; simp at ai; omega))) ?_
    refine g_val (!(decide (seen < 0))) (gy_f rfl) (fun hg => x_fa (a := Pq ab) (v := Oq ab 3) rfl (fa_blk (o := 0) Fd30_3 Sz25)) ?_
    refine g_val (!(decide (seen < 0))) (gy_f rfl) (fun hg => x_ld (p := Oq ab 3) (v := ae) (gd_of (c := !(decide (seen < 0))) hg (Oq ab 3)) (ldb_sc Sc25 (H.bl 3) rfl)) ?_
    refine g_val (!(decide (seen < 0))) (gy_f rfl) (fun hg => x_mv (v := I (t : Int)) rfl) ?_
    refine g_val (!(decide (seen < 0))) (gy_f rfl) (fun hg => x_ix (a := ae) (b := I (t : Int)) (v := vat ae 3 (Int.toNat (t : Int))) (gd_of (c := !(decide (seen < 0))) hg (ae)) (gd_of (c := !(decide (seen < 0))) hg (I (t : Int))) (Sl.ix (α := Town) T25.und T25.size (H.os 4) (by have av := aN.resolve_left (by rw [hg]; decide); first | exact av | exact av.1 | exact av.2 | omega | (have ai := hg; simp at ai; omega)) (by have av := aN.resolve_left (by rw [hg]; decide); first | exact av | exact av.1 | exact av.2 | omega | (have ai := hg; simp at ai; omega)))) ?_
    refine g_val (!(decide (seen < 0))) (gy_f rfl) (fun hg => x_fa (a := vat ae 3 (Int.toNat (t : Int))) (v := fat (vat ae 3 (Int.toNat (t : Int))) 1) (gd_of (c := !(decide (seen < 0))) hg (vat ae 3 (Int.toNat (t : Int)))) (fa_pl Fd54_1 Sz3 (Sl.pl (i := (t : Int)) (H.os 4) (by have av := aN.resolve_left (by rw [hg]; decide); first | exact av | exact av.1 | exact av.2 | omega | (have ai := hg; simp at ai; omega)) (by have av := aN.resolve_left (by rw [hg]; decide); first | exact av | exact av.1 | exact av.2 | omega | (have ai := hg; simp at ai; omega))))) ?_
    refine g_val (!(decide (seen < 0))) (gy_f rfl) (fun hg => x_ld (p := fat (vat ae 3 (Int.toNat (t : Int))) 1) (v := I ((ax.getD t default).lead)) (gd_of (c := !(decide (seen < 0))) hg (fat (vat ae 3 (Int.toNat (t : Int))) 1)) (ld_sc Sc3 (At.mono (Town_at1 (H.os 4) (i := (t : Int)) (by have av := aN.resolve_left (by rw [hg]; decide); first | exact av | exact av.1 | exact av.2 | omega | (have ai := hg; simp at ai; omega)) (by have av := aN.resolve_left (by rw [hg]; decide); first | exact av | exact av.1 | exact av.2 | omega | (have ai := hg; simp at ai; omega))) (H.ol 4)))) ?_
    refine g_val (!(decide (seen < 0))) (gy_f rfl) (fun hg => x_cmp (kd := .i64) (a := hour - seen) (b := (ax.getD t default).lead) (r := decide ((hour - seen) < ((ax.getD t default).lead))) (gd_of (c := !(decide (seen < 0))) hg (I (hour - seen))) (gd_of (c := !(decide (seen < 0))) hg (I ((ax.getD t default).lead))) rfl) ?_
    refine s_val (x_por (b := decide (seen < 0)) (r := decide ((hour - seen) < ((ax.getD t default).lead))) rfl rfl (fun hb => gd_of (c := !(decide (seen < 0))) (by first | exact hb | (rw [hb]; rfl) | simp_all) (B (decide ((hour - seen) < ((ax.getD t default).lead)))))) ?_
    refine s_nil ?_
    refine W.cond ((decide (seen < 0)) || (decide ((hour - seen) < ((ax.getD t default).lead)))) rfl (fun bz => ?_) (fun bz => ?_)
    ·replace hM := M.e_t hM bz
     refine W.seq ?_
     refine W.region rfl ?_
     refine zA (B false) rfl ?_
     refine s_nil ?_
     refine W.ret ?_
     have cz := M.e_inr hM bb
     subst cz
     replace hM := bx
     try dsimp only at hM
     have cA := M.e_inr hM aZ
     subst cA
     replace hM := bh
     try dsimp only at hM
     have cB := M.e_inr hM aS
     subst cB
     replace hM := aU
     try dsimp only at hM
     have aI := M.e_pure hM
     exact ⟨_, resE_tmp rfl, ⟨false, aI, rfl, (H.pk [])⟩⟩
    replace hM := M.e_f hM bz
    refine W.skip ?_
    refine W.seq ?_
    refine W.region rfl ?_
    refine s_val (x_ld (p := Pq ab) (v := .agg #[am, ah, ao, ae, I ak, I al, ac]) rfl (ldb_ag (ds := [am, ah, ao, ae, I ak, I al, ac]) Ag30 Sz30 (H.bl 3) rfl rfl)) ?_
    refine zM (I aE) rfl ?_
    refine zM (I (t : Int)) rfl ?_
    obtain ⟨dG, cC, hM⟩ := M.e_bind hM
    refine s_call cf28 [.agg #[am, ah, ao, ae, I ak, I al, ac], I aE, I (t : Int)] rfl (zcS r0 aB aF ax ak al r6 aE (t : Int) (rdo 5) (H.os 5) (rdo 6) (H.os 6) (rdo 7) (H.os 7) (rdo 4) (H.os 4) (Reads.sup (rdo 8) (Reads.of (k := 9) rfl roLe)) (rowSl rfl (H.get (k := 8) rfl) (roLe _ (H.get (k := 9) rfl)) aH) cC _ (H.gt 10)) ?_
    rintro vq dH ⟨az, aJ, aq, cD, hvq, au⟩
    subst cD
    subst vq
    try dsimp only at hM
    replace H := H.bk au
    clear au
    refine zM (.tuple #[.agg #[I az, I aJ], I aq]) rfl ?_
    refine zX [.agg #[I az, I aJ], I aq] (.agg #[I az, I aJ]) rfl rfl ?_
    refine zX [.agg #[I az, I aJ], I aq] (I aq) rfl rfl ?_
    refine t_alloc (cs := [I 0, I 0]) H Al27 rfl ?_
    intro aQ dI H
    refine t_sw 0 0 [I az, I aJ] (.agg #[I az, I aJ]) H rfl rfl Sz27 rfl rfl rfl rfl ?_
    intro dJ H
    refine zA (I aq) rfl ?_
    refine s_nil ?_
    refine W.seq ?_
    refine W.region rfl ?_
    refine zM (I aq) rfl ?_
    refine zC aq 0 (aq != 0) rfl rfl rfl ?_
    refine zM (B (aq != 0)) rfl ?_
    refine g_val (!(aq != 0)) (gy_f rfl) (fun hg => x_mv (v := I hour) rfl) ?_
    refine g_val (!(aq != 0)) (gy_f rfl) (fun hg => x_mv (v := I seen) rfl) ?_
    obtain ⟨bi, hM⟩ := M.e_grd hM
    replace bi := M.imp_of bi
    simp only [Bool.and_eq_true, decide_eq_true_eq] at bi
    refine g_val (!(aq != 0)) (gy_f rfl) (fun hg => x_ari (a := hour) (b := seen) (r := hour - seen) (gd_of (c := !(aq != 0)) hg (I hour)) (gd_of (c := !(aq != 0)) hg (I seen)) rfl (by have av := bi.resolve_left (by rw [hg]; decide); first | exact av | exact av.1 | exact av.2 | omega | (have ai := hg; simp at ai; omega))) ?_
    refine g_val (!(aq != 0)) (gy_f rfl) (fun hg => x_fa (a := Pq aQ) (v := Pq aQ) rfl (fa_blk (o := 0) Fd27_0 Sz3)) ?_
    refine g_val (!(aq != 0)) (gy_f rfl) (fun hg => x_ld (p := Pq aQ) (v := I az) (gd_of (c := !(aq != 0)) hg (Pq aQ)) (ldb_sc Sc3 (H.bl 0) rfl)) ?_
    refine g_val (!(aq != 0)) (gy_f rfl) (fun hg => x_cmp (kd := .i64) (a := hour - seen) (b := az) (r := decide ((hour - seen) < az)) (gd_of (c := !(aq != 0)) hg (I (hour - seen))) (gd_of (c := !(aq != 0)) hg (I az)) rfl) ?_
    refine s_val (x_por (b := aq != 0) (r := decide ((hour - seen) < az)) rfl rfl (fun hb => gd_of (c := !(aq != 0)) (by first | exact hb | (rw [hb]; rfl) | simp_all) (B (decide ((hour - seen) < az))))) ?_
    refine zM (B ((aq != 0) || (decide ((hour - seen) < az)))) rfl ?_
    refine g_val (!((aq != 0) || (decide ((hour - seen) < az)))) (gy_f rfl) (fun hg => x_mv (v := I hour) rfl) ?_
    refine g_val (!((aq != 0) || (decide ((hour - seen) < az)))) (gy_f rfl) (fun hg => x_mv (v := I seen) rfl) ?_
    obtain ⟨bj, hM⟩ := M.e_grd hM
    replace bj := M.imp_of bj
    simp only [Bool.and_eq_true, decide_eq_true_eq] at bj
    refine g_val (!((aq != 0) || (decide ((hour - seen) < az)))) (gy_f rfl) (fun hg => x_ari (a := hour) (b := seen) (r := hour - seen) (gd_of (c := !((aq != 0) || (decide ((hour - seen) < az)))) hg (I hour)) (gd_of (c := !((aq != 0) || (decide ((hour - seen) < az)))) hg (I seen)) rfl (by have av := bj.resolve_left (by rw [hg]; decide); first | exact av | exact av.1 | exact av.2 | omega | (have ai := hg; simp at ai; omega))) ?_
    refine g_val (!((aq != 0) || (decide ((hour - seen) < az)))) (gy_f rfl) (fun hg => x_fa (a := Pq aQ) (v := Oq aQ 1) rfl (fa_blk (o := 0) Fd27_1 Sz3)) ?_
    refine g_val (!((aq != 0) || (decide ((hour - seen) < az)))) (gy_f rfl) (fun hg => x_ld (p := Oq aQ 1) (v := I aJ) (gd_of (c := !((aq != 0) || (decide ((hour - seen) < az)))) hg (Oq aQ 1)) (ldb_sc Sc3 (H.bl 0) rfl)) ?_
    refine g_val (!((aq != 0) || (decide ((hour - seen) < az)))) (gy_f rfl) (fun hg => x_cmp (kd := .i64) (a := hour - seen) (b := aJ) (r := decide (aJ < (hour - seen))) (gd_of (c := !((aq != 0) || (decide ((hour - seen) < az)))) hg (I (hour - seen))) (gd_of (c := !((aq != 0) || (decide ((hour - seen) < az)))) hg (I aJ)) rfl) ?_
    refine s_val (x_por (b := ((aq != 0) || (decide ((hour - seen) < az)))) (r := decide (aJ < (hour - seen))) rfl rfl (fun hb => gd_of (c := !((aq != 0) || (decide ((hour - seen) < az)))) (by first | exact hb | (rw [hb]; rfl) | simp_all) (B (decide (aJ < (hour - seen)))))) ?_
    refine s_nil ?_
    refine W.cond (((aq != 0) || (decide ((hour - seen) < az))) || (decide (aJ < (hour - seen)))) rfl (fun bA => ?_) (fun bA => ?_)
    ·replace hM := M.e_t hM bA
     refine W.seq ?_
     refine W.region rfl ?_
     refine zA (B false) rfl ?_
     refine s_nil ?_
     refine W.ret ?_
     have cE := M.e_inr hM bb
     subst cE
     replace hM := bx
     try dsimp only at hM
     have cF := M.e_inr hM aZ
     subst cF
     replace hM := bh
     try dsimp only at hM
     have cG := M.e_inr hM aS
     subst cG
     replace hM := aU
     try dsimp only at hM
     have aI := M.e_pure hM
     exact ⟨_, resE_tmp rfl, ⟨false, aI, rfl, (H.pk [])⟩⟩
    replace hM := M.e_f hM bA
    refine W.skip ?_
    refine W.region rfl ?_
    refine zM (I (t : Int)) rfl ?_
    refine zR (t : Int) 1 ((t : Int) + 1) rfl rfl rfl (by omega) ?_
    refine zA (I ((t : Int) + 1)) rfl ?_
    refine s_nil ?_
    exact ⟨bJ, bK, t + 1, _, upds_of _ _ ⟨rfl, rfl, rfl, rfl, rfl, rfl, rfl, rfl, rfl, rfl, trivial⟩, M.e_inl hM bb, (H.pk [1, 2, 3, 4, 5, 6, 7, 8, 9, 10])⟩
   replace hM := M.e_f hM bc
   simp only [qy1, qy2, qy3, qy4, qy5, qy6, ne_eq, qy7] at bc
   refine W.exit ?_
   have cH := M.e_inr hM bb
   subst cH
   replace hM := bx
   try dsimp only at hM
   refine W.draw (fun W => St w W [cOwn (α := Int) 3 aj aa, cOwn (α := Int) 3 aC aL, cBlk ab [am, ah, ao, ae, I ak, I al, ac] 30, cOwn (α := Town) 54 ae ax, cOwn (α := Int) 3 am r0, cOwn (α := Span) 27 ah aB, cOwn (α := Int) 3 ao aF, cOwn (α := Raw 1) 67 ac aO, cRo aP] R) [(0, true), (1, true), (2, true), (3, true), (4, true), (5, true), (6, true), (7, true), (8, true), (9, true), (10, true), (11, true), (12, true), (13, true), (14, true), (15, true), (16, true), (17, true), (18, true), (19, true), (20, false), (21, true), (22, true)] mixed (by decide +kernel) rfl ?_
   intro dK ai
   replace H := H.ext ai
   clear ai
   refine ⟨(H.pk [1, 2, 3, 4, 5, 6, 7, 8, 9]), ?_⟩
   refine d_q rfl (fun w' H => x_mv (v := I hour) rfl) ?_
   refine d_q rfl (fun w' H => x_mv (v := Pq aG) rfl) ?_
   refine d_q rfl (fun w' H => x_fa (a := Pq ab) (v := Oq ab 1) rfl (fa_blk (o := 0) Fd30_1 Sz24)) ?_
   refine d_q rfl (fun w' H => x_ld (p := Oq ab 1) (v := ah) rfl (ldb_sc Sc24 (H.bl 2) rfl)) ?_
   refine d_q rfl (fun w' H => x_mv (v := aj) rfl) ?_
   refine d_q rfl (fun w' H => x_mv (v := I (k : Int)) rfl) ?_
   refine d_q rfl (fun w' H => x_ix (a := aj) (b := I (k : Int)) (v := vat aj 1 (Int.toNat (k : Int))) rfl rfl (Sl.ix (α := Int) T23.und T23.size (H.os 0) (by omega) (by omega))) ?_
   refine d_q rfl (fun w' H => x_ld (p := vat aj 1 (Int.toNat (k : Int))) (v := I (aa.getD k 0)) rfl (ld_sc Sc3 (At.mono (Int_at (H.os 0) (i := (k : Int)) (by omega) (by omega)) (H.ol 0)))) ?_
   obtain ⟨cI, hM⟩ := M.e_grd hM
   simp only [Bool.and_eq_true, decide_eq_true_eq] at cI
   refine d_q rfl (fun w' H => x_ix (a := ah) (b := I (aa.getD k 0)) (v := vat ah 2 (Int.toNat (aa.getD k 0))) rfl rfl (Sl.ix (α := Span) T24.und T24.size (H.os 5) (by omega) (by omega))) ?_
   refine d_q rfl (fun w' H => x_fa (a := vat ah 2 (Int.toNat (aa.getD k 0))) (v := fat (vat ah 2 (Int.toNat (aa.getD k 0))) 0) rfl (fa_pl Fd27_0 Sz3 (Sl.pl (i := aa.getD k 0) (H.os 5) (by omega) (by omega)))) ?_
   refine d_q rfl (fun w' H => x_ld (p := fat (vat ah 2 (Int.toNat (aa.getD k 0))) 0) (v := I ((aB.getD (Int.toNat (aa.getD k 0)) default).lo)) rfl (ld_sc Sc3 (At.mono (Span_at0 (H.os 5) (i := aa.getD k 0) (by omega) (by omega)) (H.ol 5)))) ?_
   refine d_q rfl (fun w' H => x_fa (a := Pq ab) (v := Oq ab 1) rfl (fa_blk (o := 0) Fd30_1 Sz24)) ?_
   refine d_q rfl (fun w' H => x_ld (p := Oq ab 1) (v := ah) rfl (ldb_sc Sc24 (H.bl 2) rfl)) ?_
   refine d_q rfl (fun w' H => x_mv (v := aj) rfl) ?_
   refine d_q rfl (fun w' H => x_mv (v := I (k : Int)) rfl) ?_
   refine d_q rfl (fun w' H => x_ix (a := aj) (b := I (k : Int)) (v := vat aj 1 (Int.toNat (k : Int))) rfl rfl (Sl.ix (α := Int) T23.und T23.size (H.os 0) (by omega) (by omega))) ?_
   refine d_q rfl (fun w' H => x_ld (p := vat aj 1 (Int.toNat (k : Int))) (v := I (aa.getD k 0)) rfl (ld_sc Sc3 (At.mono (Int_at (H.os 0) (i := (k : Int)) (by omega) (by omega)) (H.ol 0)))) ?_
   refine d_q rfl (fun w' H => x_ix (a := ah) (b := I (aa.getD k 0)) (v := vat ah 2 (Int.toNat (aa.getD k 0))) rfl rfl (Sl.ix (α := Span) T24.und T24.size (H.os 5) (by omega) (by omega))) ?_
   refine d_q rfl (fun w' H => x_fa (a := vat ah 2 (Int.toNat (aa.getD k 0))) (v := fat (vat ah 2 (Int.toNat (aa.getD k 0))) 1) rfl (fa_pl Fd27_1 Sz3 (Sl.pl (i := aa.getD k 0) (H.os 5) (by omega) (by omega)))) ?_
   refine d_q rfl (fun w' H => x_ld (p := fat (vat ah 2 (Int.toNat (aa.getD k 0))) 1) (v := I ((aB.getD (Int.toNat (aa.getD k 0)) default).hi)) rfl (ld_sc Sc3 (At.mono (Span_at1 (H.os 5) (i := aa.getD k 0) (by omega) (by omega)) (H.ol 5)))) ?_
   refine d_l rfl ?_
   obtain ⟨dL, cJ, hM⟩ := M.e_bind hM
   refine s_call cf27 [Pq aG, I ((aB.getD (Int.toNat (aa.getD k 0)) default).lo), I ((aB.getD (Int.toNat (aa.getD k 0)) default).hi)] rfl (zar hours s s2 ((aB.getD (Int.toNat (aa.getD k 0)) default).lo) ((aB.getD (Int.toNat (aa.getD k 0)) default).hi) (bm.app _) bn cJ _ (H.gt 9)) ?_
   rintro vq dM ⟨r8, cK, cL, cM, hvq, au⟩
   subst cM
   subst vq
   try dsimp only at hM
   replace H := H.bk au
   clear au
   refine s_nil ⟨(H.pk [1, 2, 3, 4, 5, 6, 7, 8, 9]), ?_⟩
   obtain ⟨cN, hM⟩ := M.e_grd hM
   simp only [Bool.and_eq_true, decide_eq_true_eq] at cN
   refine d_q rfl (fun w' H => x_ari (a := hour) (b := r8) (r := hour + r8) rfl rfl rfl (by omega)) ?_
   refine d_q rfl (fun w' H => x_as (v := I (hour + r8)) rfl) ?_
   refine d_nil ?_
   refine W.region rfl ?_
   refine zM (I (k : Int)) rfl ?_
   refine zR (k : Int) 1 ((k : Int) + 1) rfl rfl rfl (by omega) ?_
   refine zA (I ((k : Int) + 1)) rfl ?_
   refine s_nil ?_
   exact ⟨ch, ck, cK, cL, hour + r8, seen, k + 1, _, upds_of _ _ ⟨rfl, rfl, rfl, rfl, rfl, rfl, rfl, rfl, rfl, trivial⟩, M.e_inl hM aZ, (H.pk [1, 2, 0, 3, 4, 5, 6, 7, 8, 9])⟩
  replace hM := M.e_f hM a8
  simp only [qy1, qy2, qy3, qy4, qy5, qy6, ne_eq, qy7] at a8
  refine W.exit ?_
  have cO := M.e_inr hM aZ
  subst cO
  replace hM := bh
  try dsimp only at hM
  refine W.region rfl ?_
  refine zM (I (i : Int)) rfl ?_
  refine zR (i : Int) 1 ((i : Int) + 1) rfl rfl rfl (by omega) ?_
  refine zA (I ((i : Int) + 1)) rfl ?_
  refine s_nil ?_
  exact ⟨b6, b7, s3, s4, i + 1, _, upds_of _ _ ⟨rfl, rfl, rfl, rfl, trivial⟩, M.e_inl hM aS, (H.pk [1, 2, 3, 4, 5, 6, 7, 8, 9])⟩
 replace hM := M.e_f hM aX
 simp only [qy1, qy2, qy3, qy4, qy5, qy6, ne_eq, qy7] at aX
 refine W.exit ?_
 have cP := M.e_inr hM aS
 subst cP
 replace hM := aU
 try dsimp only at hM
 replace H := H.pk []
 refine W.seq ?_
 refine W.region rfl ?_
 obtain ⟨dN, cQ, hM⟩ := M.e_bind hM
 refine s_call cf15 [] rfl (zdb cQ _ (H.gt 0)) ?_
 rintro vq dO ⟨r9, cR, hvq, au⟩
 subst cR
 subst vq
 try dsimp only at hM
 replace H := H.bk au
 clear au
 refine zA (B r9) rfl ?_
 refine s_nil ?_
 refine W.ret ?_
 have aI := M.e_pure hM
 exact ⟨_, resE_tmp rfl, ⟨r9, aI, rfl, H⟩⟩

end Go.Proofs.Ytbaehghammbjdaa
end
namespace Go.Proofs.Ytbaehghammbjdaa
open Go Go.Nm
variable {dn : List Int} {tr : List Span} {sp : List Int} {tw : List Town} {dl dh : Int} {fl : List Flood} {ws : List Int} {D : List Dem}
theorem watches_end (R : Wn.Rv dn tr sp tw dl dh fl) {ap : List Dem} (h : (zaX dn tr sp tw dl dh fl).Ends (ws, ap, true)) : (zaI dn tr sp tw dl dh fl).Ends (ws, 0) := by
  unfold zaI
  refine M.i_bind (opened_ends R) ?_
  dsimp only
  exact M.i_f rfl (M.i_bind h (M.i_f rfl M.i_pure))
theorem path_endsI (R : Wn.Rv dn tr sp tw dl dh fl) {s : Int} (h0 : 0 <= s) (h1 : s < dn.length) : (zbp dn tr sp tw dl dh fl s).Ends (Wn.P dn s, 0) := by
  refine M.Out.ends ?_
  unfold zbp
  have h12 := R.n12
  have hst : Wn.Stn dn s := .inr ⟨h0, h1⟩
  have hsh := Wn.P_short R.nx hst
  have hp : (zai dn tr sp tw dl dh fl s).Ends (s, dl, dh) := M.i_pure
  refine M.o_bindE (opened_ends R) ?_
  dsimp only
  refine M.o_f rfl (M.o_bindE (station_true R h0 h1) (M.o_f rfl (M.o_bindE hp ?_)))
  dsimp only
  refine M.o_bind (path_out (Q := fun x => x = (.inl (Wn.P dn s) : List Int ⊕ Unit)) R.nx R.n12 hst (fun k (l : List Int) => l = (Wn.P dn s).take k) (by simp) ?_ ?_ _ _ _ _ _ _) ?_
  · rintro k hk _ rfl
    simp only [zaA]
    refine M.o_grdD (by rw [List.length_take]; simp; omega) (M.o_pure ?_)
    dsimp only
    rw [List.take_succ_eq_append_getElem hk]
  · rintro _ rfl
    rw [List.take_length]
  · rintro ⟨x, q⟩ hq
    dsimp only at hq
    subst hq
    exact M.o_pure rfl
/-- Who reports a flood: the first watch on its path. -/
def Fst (p ws : List Int) (r : Int) : Prop := (r = -1 /\ ∀ x ∈ p, x ∉ ws) ∨ ∃ m : Nat, ∃ hm : m < p.length, r = p[m] /\ p[m] ∈ ws /\ ∀ x ∈ p.take m, x ∉ ws
theorem reported_first (R : Wn.Rv dn tr sp tw dl dh fl) {p : List Bool} (hp : ∀ j : Nat, p.getD j false = true ↔ (j : Int) ∈ ws) {f : Flood} (hf : f ∈ fl) : (zan dn tr sp tw dl dh fl f p).Out (fun y => Fst (Wn.P dn f.spring) ws y.1) := by
  unfold zan
  have h1 : (zai dn tr sp tw dl dh fl f.spring).Ends (f.spring, dl, dh) := M.i_pure
  obtain ⟨k1, k2, k3⟩ := R.fok f hf
  have hs := R.si _ k1
  have hst : Wn.Stn dn f.spring := .inr hs
  have h12 := R.n12
  refine M.o_bindE h1 ?_
  dsimp only
  refine M.o_bind (path_out (Q := fun x => match x with | .inl t => Fst (Wn.P dn f.spring) ws t.1 | .inr (_ : Unit) => False) R.nx R.n12 hst
    (fun k (t : Int × Int × Bool) => (t.1 = -1 /\ ∀ x ∈ (Wn.P dn f.spring).take k, x ∉ ws) ∨ ∃ m : Nat, ∃ hm : m < (Wn.P dn f.spring).length, m < k /\ t.1 = (Wn.P dn f.spring)[m] /\ (Wn.P dn f.spring)[m] ∈ ws /\ ∀ x ∈ (Wn.P dn f.spring).take m, x ∉ ws) (.inl ⟨rfl, by simp⟩) ?_ (fun t ht => ?_) _ _ _ _ _ _) ?_
  · rintro k hk ⟨a, b, c⟩ ht
    have hm := Wn.P_mem R.nx _ hst _ (List.getElem_mem hk)
    have hc : (zaq tw (fun xqz => zaz xqz (Wn.P dn f.spring)[k] f.spring f.stages (k : Int))).Out (fun _ => True) := by
      refine contains_town _ _ fun t _ => ?_
      unfold zaz
      exact M.o_grd (gOr2 (by omega) (by omega)) (M.o_pure trivial)
    have hin : p.getD (Int.toNat (Wn.P dn f.spring)[k]) false = true ↔ (Wn.P dn f.spring)[k] ∈ ws := by
      rw [hp, Int.toNat_of_nonneg hm.2.1]
    simp only [zaC]
    dsimp only at ht
    refine M.o_grd (gA2 (by omega) (by omega)) (M.o_if (fun hb => ?_) (fun hb => ?_))
    · rw [Bool.and_eq_true] at hb
      have hn : ∀ x ∈ (Wn.P dn f.spring).take k, x ∉ ws := by
        rcases ht with ht | ⟨m, hm', _, e, _⟩
        · exact ht.2
        · have h3 := Wn.P_mem R.nx _ hst _ (List.getElem_mem hm')
          have h4 := beq_iff_eq.1 hb.2
          omega
      have hg : ∀ z : Int, z = (Wn.P dn f.spring)[k] -> (z = -1 /\ ∀ x ∈ (Wn.P dn f.spring).take (k + 1), x ∉ ws) ∨ ∃ m : Nat, ∃ hm : m < (Wn.P dn f.spring).length, m < k + 1 /\ z = (Wn.P dn f.spring)[m] /\ (Wn.P dn f.spring)[m] ∈ ws /\ ∀ x ∈ (Wn.P dn f.spring).take m, x ∉ ws :=
        fun z hz => .inr ⟨k, hk, Nat.lt_succ_self _, hz, hin.1 hb.1, hn⟩
      refine M.o_grd (gA2 (by omega) (by omega)) (M.o_bind hc fun r _ => ?_)
      exact M.o_if (fun _ => M.o_pure (hg _ rfl)) (fun _ => M.o_pure (hg _ rfl))
    · have hg : (a = -1 /\ ∀ x ∈ (Wn.P dn f.spring).take (k + 1), x ∉ ws) ∨ ∃ m : Nat, ∃ hm : m < (Wn.P dn f.spring).length, m < k + 1 /\ a = (Wn.P dn f.spring)[m] /\ (Wn.P dn f.spring)[m] ∈ ws /\ ∀ x ∈ (Wn.P dn f.spring).take m, x ∉ ws := by
        rcases ht with ht | ⟨m, hm', h4, h5⟩
        · refine .inl ⟨ht.1, fun x hx => ?_⟩
          rw [List.take_succ_eq_append_getElem hk, List.mem_append, List.mem_singleton] at hx
          rcases hx with hx | rfl
          · exact ht.2 x hx
          · intro h6
            rw [hin.2 h6, ht.1] at hb
            cases hb
        · exact .inr ⟨m, hm', by omega, h5⟩
      refine M.o_bind hc fun r _ => ?_
      exact M.o_if (fun _ => M.o_pure hg) (fun _ => M.o_pure hg)
  · rw [List.take_length] at ht
    rcases ht with ht | ⟨m, hm, _, h5⟩
    · exact .inl ht
    · exact .inr ⟨m, hm, h5⟩
  · rintro ⟨x, q⟩ hq
    cases x with
    | inl t => exact M.o_pure hq
    | inr u => exact hq.elim
theorem reports_first (R : Wn.Rv dn tr sp tw dl dh fl) (hu : ws.Pairwise (· < ·)) (hb : ∀ x ∈ ws, 0 <= x /\ x < (dn.length : Int)) {i : Nat} (hi : i < fl.length) : (zbY dn tr sp tw dl dh fl ws (i : Int)).Out (fun y => Fst (Wn.P dn (fl.getD i default).spring) ws y.1 /\ y.2.2 = 0) := by
  unfold zbY
  have h20 := R.f20
  refine M.o_bind (posted_iff R hu hb) ?_
  rintro _ ⟨ar, rfl, h⟩
  dsimp only
  refine M.o_bindE (M.i_opt (fun _ => in_true (by omega) (by omega)) (fun h => by cases h)) (M.o_f rfl (M.o_f rfl (M.o_grd (gA2 (by omega) (by omega)) ?_)))
  rw [Int.toNat_natCast]
  refine M.o_bind (reported_first R h (f := fl.getD i default) (by rw [getD_el fl hi]; exact List.getElem_mem hi)) ?_
  rintro ⟨a, b, c⟩ hy
  exact M.o_pure ⟨hy, rfl⟩
theorem aheadI_ends (R : Wn.Rv dn tr sp tw dl dh fl) {s : Int} (hs : 0 <= s /\ s < dn.length) {t : Nat} (ht : t < tw.length) (hy : (tw.getD t default).station ∈ Wn.P dn s) :
    (zbH dn tr sp tw dl dh fl s (t : Int)).Ends (Wn.sm (Wn.lo tr) (Wn.upto (Wn.P dn s) (tw.getD t default).station) - dh, Wn.sm (Wn.hi tr) (Wn.upto (Wn.P dn s) (tw.getD t default).station) - dl, 0) := by
  have d0 := R.d0
  have d1 := R.d1
  have d2 := R.d2
  have t8 := R.t8
  have h12 := R.n12
  have A := travels_ends R (.inr hs) (tw.getD t default).station
  rw [if_pos hy] at A
  have hsh := Wn.P_short R.nx (.inr hs)
  have b1 := Wn.sm_bound (Wn.lo tr) (Wn.upto (Wn.P dn s) (tw.getD t default).station) fun w hw => by
    have h1 := Wn.P_mem R.nx _ (.inr hs) w (Wn.upto_mem hw).1
    exact lo_small R w h1.2.1 h1.2.2
  have b2 := Wn.sm_bound (Wn.hi tr) (Wn.upto (Wn.P dn s) (tw.getD t default).station) fun w hw => by
    have h1 := Wn.P_mem R.nx _ (.inr hs) w (Wn.upto_mem hw).1
    have := R.hr (Int.toNat w) (by have := R.tl; omega)
    unfold Wn.hi
    omega
  have b3 : (Wn.upto (Wn.P dn s) (tw.getD t default).station).length <= (Wn.P dn s).length := (List.takeWhile_sublist _).length_le
  unfold zbH
  refine M.i_bind (opened_ends R) ?_
  dsimp only
  refine M.i_f rfl (M.i_bind (station_true R hs.1 hs.2) (M.i_bind (M.i_opt (fun _ => in_true (by omega) (by omega)) (fun h => by cases h)) (M.i_f rfl (M.i_grd (gA2 (by omega) (by omega)) ?_))))
  rw [Int.toNat_natCast]
  refine M.i_bind A ?_
  dsimp only
  refine M.i_f rfl (M.i_grd (gA2 (by omega) (by omega)) (M.i_grd (gA2 (by omega) (by omega)) ?_))
  have h := added_ends [(⟨Wn.sm (Wn.lo tr) (Wn.upto (Wn.P dn s) (tw.getD t default).station), Wn.sm (Wn.hi tr) (Wn.upto (Wn.P dn s) (tw.getD t default).station)⟩ : Span), ⟨-dh, -dl⟩] (by simp) (by
    intro z hz
    simp only [List.mem_cons, List.not_mem_nil, or_false] at hz
    rcases hz with rfl | rfl <;> dsimp only <;> omega)
  refine M.i_bind h ?_
  simp only [List.map_cons, List.map_nil, List.sum_cons, List.sum_nil, Int.add_zero]
  exact M.i_pure
/-- A flood that runs: the hour at a place of its path, and when its report is heard. -/
def Hr (tr : List Span) (p : List Int) (dl dh : Int) (m : Option Nat) (k : Nat) (hour seen : Int) : Prop :=
  (0 <= hour /\ hour <= 1000 * k) /\ match m with
  | none => seen = -1
  | some m => (k <= m /\ seen = -1) ∨ (m < k /\ ∃ h δ : Int, 0 <= h /\ h <= 1000 * m /\ dl <= δ /\ δ <= dh /\ seen = h + δ /\ Wn.sm (Wn.lo tr) ((p.take k).drop m) <= hour - h /\ hour - h <= Wn.sm (Wn.hi tr) ((p.take k).drop m))
/-- The same when the report at this place is out. -/
def Hq (tr : List Span) (p : List Int) (dl dh : Int) (m : Option Nat) (k : Nat) (hour seen : Int) : Prop :=
  (0 <= hour /\ hour <= 1000 * k) /\ match m with
  | none => seen = -1
  | some m => (k < m /\ seen = -1) ∨ (m <= k /\ ∃ h δ : Int, 0 <= h /\ h <= 1000 * m /\ dl <= δ /\ δ <= dh /\ seen = h + δ /\ Wn.sm (Wn.lo tr) ((p.take k).drop m) <= hour - h /\ hour - h <= Wn.sm (Wn.hi tr) ((p.take k).drop m))
/-- The place of the watch that reports. -/
def Wpl (p : List Int) (r : Int) : Option Nat -> Prop
  | none => ∀ z ∈ p, z ≠ r
  | some i => ∃ h : i < p.length, r = p[i]
theorem seg_upto (hD : Wn.Dn dn) {x : Int} (hx : Wn.Stn dn x) {m k : Nat} (hmk : m <= k) (hk : k < (Wn.P dn x).length) : Wn.upto (Wn.P dn (Wn.P dn x)[m]) (Wn.P dn x)[k] = ((Wn.P dn x).take k).drop m := by
  have e := Wn.P_drop hD x hx m (by omega)
  have hu := Wn.P_up hD x hx
  rw [e, List.drop_take]
  refine Wn.upto_take ?_ ?_
  · rw [List.getElem?_drop, List.getElem?_eq_getElem (by omega)]
    simp only [show m + (k - m) = k by omega]
  · intro z hz
    obtain ⟨j, hj, rfl⟩ := List.getElem_of_mem hz
    rw [List.length_take, List.length_drop] at hj
    rw [List.getElem_take, List.getElem_drop]
    have := List.pairwise_iff_getElem.1 hu (m + j) k (by omega) hk (by omega)
    omega
theorem seg_succ {p : List Int} {m k : Nat} (hmk : m <= k) (hk : k < p.length) (f : Int -> Int) : Wn.sm f ((p.take (k + 1)).drop m) = Wn.sm f ((p.take k).drop m) + f p[k] := by
  rw [List.take_succ_eq_append_getElem hk, List.drop_append_of_le_length (by rw [List.length_take]; omega), Wn.sm_app]
  simp [Wn.sm]
/-- What a town asks: it has heard of the flood in time. -/
structure Intime (dn : List Int) (tr : List Span) (tw : List Town) (dh : Int) (x : Int) (ws : List Int) (m : Option Nat) : Prop where
  it : ∀ (k : Nat) (hk : k < (Wn.P dn x).length) (t : Nat), t < tw.length -> (tw.getD t default).station = (Wn.P dn x)[k] -> ∃ i, ∃ hi : i <= k, m = some i /\ (tw.getD t default).lead + dh <= Wn.sm (Wn.lo tr) (((Wn.P dn x).take k).drop i)
theorem intime_of (R : Wn.Rv dn tr sp tw dl dh fl) (hm : ∀ d, d ∈ D ↔ d.spring ∈ sp /\ (0 <= d.town /\ d.town < (tw.length : Int)) /\ Wn.stn tw d ∈ Wn.P dn d.spring) (cov : ∀ d ∈ D, ∃ s ∈ Wn.Sd dn tr tw dh d, s ∈ ws) {x : Int} (hx : x ∈ sp) {r : Int} (hr : Fst (Wn.P dn x) ws r) :
    ∃ m : Option Nat, Intime dn tr tw dh x ws m /\ Wpl (Wn.P dn x) r m := by
  have hst : Wn.Stn dn x := .inr (R.si _ hx)
  have hu := Wn.P_up R.nx x hst
  have key : ∀ (k : Nat) (hk : k < (Wn.P dn x).length) (t : Nat), t < tw.length -> (tw.getD t default).station = (Wn.P dn x)[k] -> ∃ j, ∃ hj : j <= k, (Wn.P dn x)[j] ∈ ws /\ (tw.getD t default).lead + dh <= Wn.sm (Wn.lo tr) (((Wn.P dn x).take k).drop j) := by
    intro k hk t ht e
    obtain ⟨s, s1, s2⟩ := cov ⟨x, (t : Int)⟩ ((hm _).2 ⟨hx, ⟨by dsimp only; omega, by dsimp only; omega⟩, by
      show (tw.getD (Int.toNat (t : Int)) default).station ∈ _
      rw [Int.toNat_natCast, e]
      exact List.getElem_mem hk⟩)
    obtain ⟨a1, a2, a3⟩ := Wn.mem_Sd.1 s1
    have es : Wn.stn tw ⟨x, (t : Int)⟩ = (Wn.P dn x)[k] := e
    have el : Wn.led tw ⟨x, (t : Int)⟩ = (tw.getD t default).lead := rfl
    rw [es] at a2 a3
    rw [el] at a3
    dsimp only at a1
    obtain ⟨j, hj, rfl⟩ := List.getElem_of_mem a1
    have hjk : j <= k := by
      have h1 := Wn.P_mem R.nx _ (.inr (Wn.P_mem R.nx _ hst _ a1).2) _ a2
      rcases Nat.lt_or_ge k j with g | g
      · have := List.pairwise_iff_getElem.1 hu k j hk hj g
        omega
      · exact g
    exact ⟨j, hjk, s2, by rw [← seg_upto R.nx hst hjk hk]; exact a3⟩
  rcases hr with ⟨rfl, hn⟩ | ⟨m, hml, rfl, hmw, hmn⟩
  · refine ⟨none, ⟨fun k hk t ht e => ?_⟩, fun z hz => ?_⟩
    · obtain ⟨j, hj, j1, _⟩ := key k hk t ht e
      exact absurd j1 (hn _ (List.getElem_mem _))
    · have := Wn.P_mem R.nx _ hst z hz
      omega
  · refine ⟨some m, ⟨fun k hk t ht e => ?_⟩, hml, rfl⟩
    obtain ⟨j, hj, j1, j2⟩ := key k hk t ht e
    have hmj : m <= j := by
      rcases Nat.lt_or_ge j m with g | g
      · refine absurd j1 (hmn _ ?_)
        rw [List.mem_take_iff_getElem]
        exact ⟨j, by omega, rfl⟩
      · exact g
    refine ⟨m, by omega, rfl, Int.le_trans j2 ?_⟩
    have e1 : ((Wn.P dn x).take k).drop m = (((Wn.P dn x).take j).drop m) ++ ((Wn.P dn x).take k).drop j := by
      rw [← seg_upto R.nx hst (show m <= k by omega) hk, ← seg_upto R.nx hst hmj (by omega), ← seg_upto R.nx hst hj hk]
      have hmem : ∀ i (hi : i < (Wn.P dn x).length), Wn.Stn dn (Wn.P dn x)[i] := fun i hi => .inr (Wn.P_mem R.nx _ hst _ (List.getElem_mem hi)).2
      refine (Wn.upto_trans R.nx (hmem m hml) (Wn.P_fwd R.nx hst (List.getElem_mem hml) (List.getElem_mem (by omega)) ?_) (Wn.P_fwd R.nx hst (List.getElem_mem (by omega)) (List.getElem_mem hk) ?_)).2
      · rcases Nat.lt_or_eq_of_le hmj with g | g
        · have := List.pairwise_iff_getElem.1 hu m j hml (by omega) g
          omega
        · subst g; exact Int.le_refl _
      · rcases Nat.lt_or_eq_of_le hj with g | g
        · have := List.pairwise_iff_getElem.1 hu j k (by omega) hk g
          omega
        · subst g; exact Int.le_refl _
    rw [e1, Wn.sm_app]
    have := Wn.sm_bound (Wn.lo tr) (((Wn.P dn x).take j).drop m) fun w hw => by
      have h1 := Wn.P_mem R.nx _ hst w (List.mem_of_mem_take (List.mem_of_mem_drop hw))
      exact lo_small R w h1.2.1 h1.2.2
    omega
/-- The towns at a place of the path. -/
theorem intime_b7 (R : Wn.Rv dn tr sp tw dl dh fl) {x r : Int} (hx : x ∈ sp) {m : Option Nat} (hI : Intime dn tr tw dh x ws m) (hr : Wpl (Wn.P dn x) r m) {k : Nat} (hk : k < (Wn.P dn x).length) {hour seen : Int} (hH : Hq tr (Wn.P dn x) dl dh m k hour seen) :
    (M.iter (zaZ dn tr sp fl dl dh tw r (Wn.P dn x) hour k seen) 0).Out (fun y => y = .inr ()) := by
  have hst : Wn.Stn dn x := .inr (R.si _ hx)
  have d0 := R.d0
  have d1 := R.d1
  have d2 := R.d2
  have t8 := R.t8
  have h12 := R.n12
  have hsh := Wn.P_short R.nx hst
  refine M.o_for tw.length (fun i (t : Nat) => t = i) ?_ ?_ rfl
  · rintro _ t ht rfl
    simp only [zaZ]
    refine M.o_t (decide_eq_true (by omega)) (M.o_grdD (by omega) (M.o_if (fun _ => M.o_pure rfl) (fun hb => ?_)))
    have e : (tw.getD t default).station = (Wn.P dn x)[k] := by
      rw [getD_el (Wn.P dn x) hk] at hb
      simpa using hb
    obtain ⟨i, hi, rfl, hlead⟩ := hI.it k hk t ht e
    obtain ⟨hil, rfl⟩ := hr
    obtain ⟨⟨q0, q1⟩, hH⟩ := hH
    dsimp only at hH
    rcases hH with ⟨g, _⟩ | ⟨_, h, δ, a1, a2, a3, a4, rfl, a5, a6⟩
    · omega
    have hm := Wn.P_mem R.nx _ hst _ (List.getElem_mem hil)
    have hA := aheadI_ends R hm.2 ht (by
      rw [e]
      refine Wn.P_fwd R.nx hst (List.getElem_mem hil) (List.getElem_mem hk) ?_
      rcases Nat.lt_or_eq_of_le hi with g | g
      · have := List.pairwise_iff_getElem.1 (Wn.P_up R.nx x hst) i k hil hk g
        omega
      · subst g; exact Int.le_refl _)
    rw [e, seg_upto R.nx hst hi hk] at hA
    have hg : ∀ c : Bool, (!c || (decide ((-9223372036854775808 : Int) <= (hour - (h + δ))) && decide ((hour - (h + δ)) <= (9223372036854775807 : Int)))) = true := fun c => by
      rw [gA2 (by omega) (by omega)]
      simp
    refine M.o_grd (hg _) (M.o_f ?_ (M.o_bindE hA ?_))
    · rw [decide_eq_false (by omega), decide_eq_false (by omega)]
      rfl
    · dsimp only
      refine M.o_grd (hg _) (M.o_grd (hg _) (M.o_f ?_ (M.o_pure rfl)))
      rw [decide_eq_false (by omega), decide_eq_false (by omega)]
      rfl
  · rintro _ rfl
    simp only [zaZ]
    exact M.o_f (decide_eq_false (by omega)) (M.o_pure rfl)
theorem intime_b9 {b : List UInt8} (R : Wn.Rv dn tr sp tw dl dh fl) {x r : Int} (hx : x ∈ sp) {m : Option Nat} (hI : Intime dn tr tw dh x ws m) (hr : Wpl (Wn.P dn x) r m) {c u y : Int} (hS : SOk c u y) (hc : c <= 1000000) :
    (M.iter (zaY b dn tr sp fl dl dh tw r (Wn.P dn x)) (u, y, 0, -1, 0)).Out (fun z => ∃ z1, z = .inr z1 /\ SOk (c + 24) z1.1 z1.2) := by
  have hst : Wn.Stn dn x := .inr (R.si _ hx)
  have d0 := R.d0
  have d1 := R.d1
  have d2 := R.d2
  have h12 := R.n12
  have hsh := Wn.P_short R.nx hst
  have hu := Wn.P_up R.nx x hst
  have j8 : ∀ (k : Nat) (hk : k < (Wn.P dn x).length) (hour seen s s2 : Int), SOk (c + 2 * k + 1) s s2 -> Hq tr (Wn.P dn x) dl dh m k hour seen →
      (zaR b dn tr sp fl dl dh tw r (Wn.P dn x) hour k s s2 seen).Out (fun z => ∃ a1 a2 a3 a4, z = .inl (a1, a2, a3, a4, k + 1) /\ SOk (c + 2 * (k + 1 : Nat)) a1 a2 /\ Hr tr (Wn.P dn x) dl dh m (k + 1) a3 a4) := by
    intro k hk hour seen s s2 hS hH
    unfold zaR
    have hm := Wn.P_mem R.nx _ hst _ (List.getElem_mem hk)
    have htr := R.hr (Int.toNat (Wn.P dn x)[k]) (by have := R.tl; omega)
    have e := getD_el (Wn.P dn x) hk 0
    refine M.o_bind (intime_b7 R hx hI hr hk hH) ?_
    rintro _ rfl
    dsimp only
    rw [e]
    refine M.o_grd (gA2 (by omega) (by have := R.tl; omega)) (M.o_bind (within_out hS (by omega) (by omega) (by omega) (by omega)) ?_)
    rintro ⟨r8, u2, x2⟩ ⟨k1, k2, k3⟩
    dsimp only at k1 k2 k3 ⊢
    obtain ⟨⟨q0, q1⟩, hH⟩ := hH
    refine M.o_grd (gA2 (by omega) (by omega)) (M.o_pure ⟨_, _, _, _, rfl, k1.mono (by omega), ⟨by omega, by omega⟩, ?_⟩)
    cases m with
    | none => exact hH
    | some m =>
      dsimp only at hH ⊢
      rcases hH with ⟨g1, g2⟩ | ⟨g1, h, δ, a1, a2, a3, a4, a5, a6, a7⟩
      · exact .inl ⟨by omega, g2⟩
      · refine .inr ⟨by omega, h, δ, a1, a2, a3, a4, a5, ?_, ?_⟩
        · rw [seg_succ g1 hk]
          unfold Wn.lo at a6 ⊢
          omega
        · rw [seg_succ g1 hk]
          unfold Wn.hi at a7 ⊢
          omega
  refine M.o_for (Wn.P dn x).length (fun i (t : Int × Int × Int × Int × Nat) => t.2.2.2.2 = i /\ SOk (c + 2 * i) t.1 t.2.1 /\ Hr tr (Wn.P dn x) dl dh m i t.2.2.1 t.2.2.2.1) ?_ ?_ ⟨rfl, hS.mono (by omega), ⟨by dsimp only; omega, by dsimp only; omega⟩, ?_⟩
  · rintro _ ⟨s, s2, hour, seen, k⟩ hk ⟨rfl, h1, ⟨q0, q1⟩, h2⟩
    dsimp only at hk h1 q0 q1 h2
    simp only [zaY]
    have hm := Wn.P_mem R.nx _ hst _ (List.getElem_mem hk)
    have e := getD_el (Wn.P dn x) hk 0
    rw [e]
    refine M.o_t (decide_eq_true (by omega)) (M.o_grdD (by omega) (M.o_f (by rw [decide_eq_false (by omega), decide_eq_false (by omega)]; rfl) (M.o_if (fun hb => ?_) (fun hb => ?_))))
    · have hb : (Wn.P dn x)[k] = r := by simpa using hb
      obtain ⟨i, rfl⟩ : ∃ i, m = some i := by
        cases m with
        | none => exact absurd hb (hr _ (List.getElem_mem hk))
        | some i => exact ⟨i, rfl⟩
      obtain ⟨hil, rfl⟩ := hr
      have hki : k = i := by
        rcases Nat.lt_trichotomy k i with g | g | g
        · have := List.pairwise_iff_getElem.1 hu k i hk hil g
          omega
        · exact g
        · have := List.pairwise_iff_getElem.1 hu i k hil hk g
          omega
      subst hki
      refine M.o_bind (within_out h1 (by omega) (by omega) (by omega) (by omega)) ?_
      rintro ⟨r7, u2, x2⟩ ⟨k1, k2, k3⟩
      dsimp only at k1 k2 k3 h2 ⊢
      refine M.o_grd (gA2 (by omega) (by omega)) ?_
      obtain ⟨z, z1, a1, a2, a3, a4, rfl, z3, z4⟩ := j8 k hk hour (hour + r7) u2 x2 k1 ⟨⟨q0, q1⟩, .inr ⟨Nat.le_refl _, hour, r7, q0, q1, k2, k3, rfl, by
        rw [List.drop_eq_nil_of_le (by rw [List.length_take]; omega)]
        simp [Wn.sm], by
        rw [List.drop_eq_nil_of_le (by rw [List.length_take]; omega)]
        simp [Wn.sm]⟩⟩
      exact ⟨_, z1, rfl, z3, z4⟩
    · have hb : (Wn.P dn x)[k] ≠ r := by simpa using hb
      obtain ⟨z, z1, a1, a2, a3, a4, rfl, z3, z4⟩ := j8 k hk hour seen s s2 (h1.mono (by omega)) ⟨⟨q0, q1⟩, by
        cases m with
        | none => exact h2
        | some m =>
          dsimp only at h2 ⊢
          rcases h2 with ⟨g1, g2⟩ | ⟨g1, g2⟩
          · refine .inl ⟨?_, g2⟩
            rcases Nat.lt_or_eq_of_le g1 with g | g
            · exact g
            · subst g
              obtain ⟨_, e⟩ := hr
              exact absurd e.symm hb
          · exact .inr ⟨by omega, g2⟩⟩
      exact ⟨_, z1, rfl, z3, z4⟩
  · rintro ⟨s, s2, hour, seen, k⟩ ⟨e, h1, _⟩
    dsimp only at e h1
    subst e
    simp only [zaY]
    exact M.o_f (decide_eq_false (by omega)) (M.o_pure ⟨_, rfl, h1.mono (by omega)⟩)
  · cases m with
    | none => rfl
    | some m => exact .inl ⟨Nat.zero_le _, rfl⟩
theorem intime_b10 {b : List UInt8} (R : Wn.Rv dn tr sp tw dl dh fl) (hm : ∀ d, d ∈ D ↔ d.spring ∈ sp /\ (0 <= d.town /\ d.town < (tw.length : Int)) /\ Wn.stn tw d ∈ Wn.P dn d.spring) (hu : ws.Pairwise (· < ·)) (hb : ∀ x ∈ ws, 0 <= x /\ x < (dn.length : Int)) (cov : ∀ d ∈ D, ∃ s ∈ Wn.Sd dn tr tw dh d, s ∈ ws) {c u x : Int} (hS : SOk c u x) (hc : c <= 1000) :
    (M.iter (zaU b dn tr sp fl dl dh tw ws) (u, x, 0)).Out (fun z => ∃ z1, z = .inr z1) := by
  have h20 := R.f20
  refine M.o_for fl.length (fun i (t : Int × Int × Nat) => t.2.2 = i /\ SOk (c + 24 * i) t.1 t.2.1) ?_ ?_ ⟨rfl, hS.mono (by omega)⟩
  · rintro _ ⟨s, s2, i⟩ hi ⟨rfl, h1⟩
    dsimp only at hi h1
    simp only [zaU]
    have hf : fl.getD i default ∈ fl := by rw [getD_el fl hi]; exact List.getElem_mem hi
    obtain ⟨k1, k2, k3⟩ := R.fok _ hf
    have hs := R.si _ k1
    refine M.o_t (decide_eq_true (by omega)) (M.o_bind (reports_first R hu hb hi) ?_)
    rintro ⟨r, q, e⟩ ⟨hr, rfl⟩
    dsimp only at hr ⊢
    refine M.o_f rfl (M.o_grdD (by omega) (M.o_bindE (path_endsI R hs.1 hs.2) ?_))
    dsimp only
    obtain ⟨m, hI, hmr⟩ := intime_of R hm cov k1 hr
    refine M.o_f (by rw [k2]; simp) (M.o_bind (intime_b9 R k1 hI hmr h1 (by omega)) ?_)
    rintro _ ⟨⟨z1, z2⟩, rfl, hz⟩
    exact M.o_pure ⟨rfl, hz.mono (by omega)⟩
  · rintro ⟨s, s2, i⟩ ⟨e, h1⟩
    dsimp only at e h1
    subst e
    simp only [zaU]
    exact M.o_f (decide_eq_false (by omega)) (M.o_pure ⟨_, rfl⟩)
theorem zdc (p t : List UInt8) : (zcE p t).Ends true := by
  refine M.Out.ends ?_
  unfold zcE
  have hnew : ∀ p, (zca p).Ends (0, 0) := fun p => M.i_pure
  refine M.o_bindE (hnew p) (M.o_bind (made_out SOk.zero) ?_)
  rintro ⟨dn, tr, sp, tw0, dl, dh, fl, q1, q2⟩ ⟨R0, _, _⟩
  dsimp only at R0 ⊢
  refine M.o_bind (kept_out R0) ?_
  rintro _ ⟨tw, rfl, R, hM⟩
  dsimp only
  obtain ⟨D, hD, hl, hm⟩ := demands_is R
  have ho : ∀ d ∈ D, Wn.OkD dn tw d /\ Wn.Sd dn tr tw dh d ≠ [] := fun d hd => ⟨dem_ok R hm d hd, hM D hD d hd⟩
  obtain ⟨ws, ap, hF, F⟩ := fewest_is R hD hl ho
  refine M.o_bindE (hnew t) ?_
  dsimp only
  refine M.o_bindE (watches_end R hF) ?_
  dsimp only
  refine M.o_bind (late_out R hD hl (fun d hd => (ho d hd).1) F.up F.bd) ?_
  rintro ⟨late, e⟩ ⟨rfl, hq⟩
  dsimp only at hq ⊢
  have hl0 : late = [] := hq.2 F.cov
  subst hl0
  refine M.o_f rfl (M.o_bind (intime_b10 R hm F.up F.bd F.cov SOk.zero (by decide)) ?_)
  rintro _ ⟨⟨z1, z2⟩, rfl⟩
  exact M.o_bindE awake_ends (M.o_pure rfl)
end Go.Proofs.Ytbaehghammbjdaa
