/- Part 5 of the texts on which the proof rests. Conditions: none. -/
import Derived.KernelRfl
import Derived.Test.YtbaehghammbjdaaZF4
set_option linter.unusedVariables false
set_option linter.unusedSimpArgs false
set_option linter.unusedSectionVars false
section
set_option maxRecDepth 100000
set_option maxHeartbeats 16000000
namespace Go.Proofs.Ytbaehghammbjdaa
open Go Go.Nm
def zcA : M Bool :=
  M.bind (zaf 4) fun (r0, r1, r2, r3, r4, r5, r6) =>
  M.bind (zaq r0 r1 r2 r3 r4 r5 r6 (⟨(0 : Int), (0 : Int)⟩ : Dem)) fun (bf, aj) =>
  M.bind (zaf 4) fun (bg, bh, bi, bj, bm, bn, bo) =>
  M.bind (zaq bg bh bi bj bm bn bo (⟨(1 : Int), (0 : Int)⟩ : Dem)) fun (av, ak) =>
  M.bind (zaf 4) fun (bp, bq, br, bt, bu, bv, bw) =>
  M.bind (zam bp bq br bt bu bv bw) fun (bY, al) =>
  M.bind (zaf 3) fun (bx, bz, bA, bB, bC, bD, bE) =>
  M.bind (zam bx bz bA bB bC bD bE) fun (aw, am) =>
  M.bind (zaf 1) fun (bF, bG, bH, bI, bJ, bK, bL) =>
  M.bind (zam bF bG bH bI bJ bK bL) fun (bM, ao) =>
  M.bind (zaf 4) fun (bN, bO, bP, bQ, bR, bS, bT) =>
  M.bind (zc6 bN bO bP bQ bR bS bT 0 0) fun (bb, bc, aq) =>
  M.bind (M.opt (!((((((aj != 0) || (ak != 0)) || (al != 6)) || (am != 0)) || (ao != 0)) || (aq != 0))) (zae bf ([(0 : Int)])) false) fun r7 =>
  M.bind (M.opt (!(((((((((aj != 0) || (ak != 0)) || (al != 6)) || (am != 0)) || (ao != 0)) || (aq != 0)) || (!r7)) || (decide (0 < (av.length : Int)))) || ((aw.length : Int) != 2))) (zae bM ([(2 : Int)])) false) fun r8 =>
  bif !((((((((((aj != 0) || (ak != 0)) || (al != 6)) || (am != 0)) || (ao != 0)) || (aq != 0)) || (!r7)) || (decide (0 < (av.length : Int)))) || ((aw.length : Int) != 2)) || (!r8)) then (
  M.bind (zaT 6 10) fun (bU, bV) =>
  bif (((((((((((aj != 0) || (ak != 0)) || (al != 6)) || (am != 0)) || (ao != 0)) || (aq != 0)) || (!r7)) || (decide (0 < (av.length : Int)))) || ((aw.length : Int) != 2)) || (!r8)) || (!(decide ((⟨(bb : Int), (bc : Int)⟩ : Span) = (⟨(bU : Int), (bV : Int)⟩ : Span))))) then (
  M.pure false)
  else (
  M.bind (zaf 1) fun (ax, ay, az, aA, aB, aC, aD) =>
  M.bind (zcr ax ay az aA aB aC aD ([(2 : Int)])) fun (aE, aF, aa) =>
  M.bind (zaf 1) fun (aG, aH, aI, aJ, aK, aL, aM) =>
  M.bind (zaB aG aH aI aJ aK aL aM ([(2 : Int)]) ([(250 : Int)])) fun (ag, ah, ab) =>
  M.bind (zaf 1) fun (aN, aO, aP, aQ, aR, aS, aT) =>
  M.bind (zaB aN aO aP aQ aR aS aT ([(2 : Int)]) ([(240 : Int)])) fun (bW, aU, ac) =>
  M.bind (zaf 1) fun (aV, aW, aX, aY, aZ, a6, a7) =>
  M.bind (zaB aV aW aX aY aZ a6 a7 ([(2 : Int)]) ([(251 : Int)])) fun (a8, bX, ae) =>
  M.bind (M.opt ((((aa == 0) && (ab == 0)) && (ac == 0)) && (ae == 0)) (zae aE ([(250 : Int)])) false) fun r9 =>
  M.bind (M.opt (((((aa == 0) && (ab == 0)) && (ac == 0)) && (ae == 0)) && r9) (zae aF ([(0 : Int)])) false) fun ai =>
  M.grd ((!((((((aa == 0) && (ab == 0)) && (ac == 0)) && (ae == 0)) && r9) && ai) || (decide ((-9223372036854775808 : Int) <= ((ag.length : Int) + (ah.length : Int))) && decide (((ag.length : Int) + (ah.length : Int)) <= (9223372036854775807 : Int))))) <|
  M.bind (M.opt (((((((aa == 0) && (ab == 0)) && (ac == 0)) && (ae == 0)) && r9) && ai) && (((ag.length : Int) + (ah.length : Int)) == 0)) (zae aU ([(1 : Int)])) false) fun au =>
  M.bind (M.opt ((((((((aa == 0) && (ab == 0)) && (ac == 0)) && (ae == 0)) && r9) && ai) && (((ag.length : Int) + (ah.length : Int)) == 0)) && au) (zae a8 ([(0 : Int)])) false) fun ba =>
  M.pure (((((((((aa == 0) && (ab == 0)) && (ac == 0)) && (ae == 0)) && r9) && ai) && (((ag.length : Int) + (ah.length : Int)) == 0)) && au) && ba)))
  else (
  bif (((((((((((aj != 0) || (ak != 0)) || (al != 6)) || (am != 0)) || (ao != 0)) || (aq != 0)) || (!r7)) || (decide (0 < (av.length : Int)))) || ((aw.length : Int) != 2)) || (!r8)) || (!(decide ((⟨(bb : Int), (bc : Int)⟩ : Span) = (⟨(0 : Int), (0 : Int)⟩ : Span))))) then (
  M.pure false)
  else (
  M.bind (zaf 1) fun (ax, ay, az, aA, aB, aC, aD) =>
  M.bind (zcr ax ay az aA aB aC aD ([(2 : Int)])) fun (aE, aF, aa) =>
  M.bind (zaf 1) fun (aG, aH, aI, aJ, aK, aL, aM) =>
  M.bind (zaB aG aH aI aJ aK aL aM ([(2 : Int)]) ([(250 : Int)])) fun (ag, ah, ab) =>
  M.bind (zaf 1) fun (aN, aO, aP, aQ, aR, aS, aT) =>
  M.bind (zaB aN aO aP aQ aR aS aT ([(2 : Int)]) ([(240 : Int)])) fun (bW, aU, ac) =>
  M.bind (zaf 1) fun (aV, aW, aX, aY, aZ, a6, a7) =>
  M.bind (zaB aV aW aX aY aZ a6 a7 ([(2 : Int)]) ([(251 : Int)])) fun (a8, bX, ae) =>
  M.bind (M.opt ((((aa == 0) && (ab == 0)) && (ac == 0)) && (ae == 0)) (zae aE ([(250 : Int)])) false) fun r9 =>
  M.bind (M.opt (((((aa == 0) && (ab == 0)) && (ac == 0)) && (ae == 0)) && r9) (zae aF ([(0 : Int)])) false) fun ai =>
  M.grd ((!((((((aa == 0) && (ab == 0)) && (ac == 0)) && (ae == 0)) && r9) && ai) || (decide ((-9223372036854775808 : Int) <= ((ag.length : Int) + (ah.length : Int))) && decide (((ag.length : Int) + (ah.length : Int)) <= (9223372036854775807 : Int))))) <|
  M.bind (M.opt (((((((aa == 0) && (ab == 0)) && (ac == 0)) && (ae == 0)) && r9) && ai) && (((ag.length : Int) + (ah.length : Int)) == 0)) (zae aU ([(1 : Int)])) false) fun au =>
  M.bind (M.opt ((((((((aa == 0) && (ab == 0)) && (ac == 0)) && (ae == 0)) && r9) && ai) && (((ag.length : Int) + (ah.length : Int)) == 0)) && au) (zae a8 ([(0 : Int)])) false) fun ba =>
  M.pure (((((((((aa == 0) && (ab == 0)) && (ac == 0)) && (ae == 0)) && r9) && ai) && (((ag.length : Int) + (ah.length : Int)) == 0)) && au) && ba)))
theorem zdb {R : List Chunk}    {r : Bool} (hM : (zcA).Ends r) (w : World) (H : St w w [] R) : Ret Try.prog 15 #[] w fun v w' => ∃ (y0 : Bool), y0 = r /\ v = B y0 /\ St w w' [] R := by
 refine ret_of_W Try.func15 rfl rfl rfl ?_
 refine W.seq ?_
 refine W.region rfl ?_
 refine zA (B false) rfl ?_
 refine s_nil ?_
 refine W.seq ?_
 refine W.region rfl ?_
 obtain ⟨f4, cz, hM⟩ := M.e_bind hM
 refine s_call cf42 [I 4] rfl (zag 4 cz _ (H.gt 0)) ?_
 rintro vq f6 ⟨r0, r1, r2, r3, r4, r5, r6, cA, cB, cC, cD, cE, f9, ga, cF, hvq, ah, cG⟩
 subst cF
 subst vq
 try dsimp only at hM
 replace H := H.bk ah
 clear ah
 refine s_val (x_bld (ps := [(0, I 0)]) (zs := [I 0, I 0]) (L' := [I 0, I 0]) rfl Try.underlying62 Al62 rfl (Bd62 Try.underlying62) (.cons (cs := [I 0]) rfl rfl rfl rfl rfl <| .nil)) ?_
 obtain ⟨gc, cH, hM⟩ := M.e_bind hM
 refine s_call cf24 [.agg #[cA, cB, cC, cD, I r4, I r5, cE], .agg #[I 0, I 0]] rfl (zbv r0 r1 r2 r3 r4 r5 r6 (⟨(0 : Int), (0 : Int)⟩ : Dem) (rdo 0) (H.os 0) (rdo 1) (H.os 1) (rdo 2) (H.os 2) (rdo 3) (H.os 3) (Reads.sup (rdo 4) (Reads.of (k := 5) rfl roLe)) (rowSl rfl (H.get (k := 4) rfl) (roLe _ (H.get (k := 5) rfl)) cG) cH _ (H.gt 6)) ?_
 rintro vq gf ⟨b6, ag, aL, cI, hvq, ah⟩
 subst cI
 subst vq
 try dsimp only at hM
 replace H := H.bk ah
 clear ah
 refine zM (.tuple #[aL, I ag]) rfl ?_
 refine zX [aL, I ag] aL rfl rfl ?_
 refine zX [aL, I ag] (I ag) rfl rfl ?_
 refine zA aL rfl ?_
 refine zA (I ag) rfl ?_
 refine s_nil ?_
 replace H := H.pk [0]
 refine W.seq ?_
 refine W.region rfl ?_
 obtain ⟨gg, cJ, hM⟩ := M.e_bind hM
 refine s_call cf42 [I 4] rfl (zag 4 cJ _ (H.gt 1)) ?_
 rintro vq gh ⟨cK, cL, cM, cN, b7, b8, cO, cP, cQ, cR, cS, cT, gi, gj, cU, hvq, ah, cV⟩
 subst cU
 subst vq
 try dsimp only at hM
 replace H := H.bk ah
 clear ah
 refine s_val (x_bld (ps := [(0, I 1)]) (zs := [I 0, I 0]) (L' := [I 1, I 0]) rfl Try.underlying62 Al62 rfl (Bd62 Try.underlying62) (.cons (cs := [I 1]) rfl rfl rfl rfl rfl <| .nil)) ?_
 obtain ⟨gk, cW, hM⟩ := M.e_bind hM
 refine s_call cf24 [.agg #[cP, cQ, cR, cS, I b7, I b8, cT], .agg #[I 1, I 0]] rfl (zbv cK cL cM cN b7 b8 cO (⟨(1 : Int), (0 : Int)⟩ : Dem) (rdo 0) (H.os 0) (rdo 1) (H.os 1) (rdo 2) (H.os 2) (rdo 3) (H.os 3) (Reads.sup (rdo 4) (Reads.of (k := 5) rfl roLe)) (rowSl rfl (H.get (k := 4) rfl) (roLe _ (H.get (k := 5) rfl)) cV) cW _ (H.gt 7)) ?_
 rintro vq gl ⟨av, ai, aN, cX, hvq, ah⟩
 subst cX
 subst vq
 try dsimp only at hM
 replace H := H.bk ah
 clear ah
 refine zM (.tuple #[aN, I ai]) rfl ?_
 refine zX [aN, I ai] aN rfl rfl ?_
 refine zX [aN, I ai] (I ai) rfl rfl ?_
 refine zA aN rfl ?_
 refine zA (I ai) rfl ?_
 refine s_nil ?_
 replace H := H.pk [0, 7]
 refine W.seq ?_
 refine W.region rfl ?_
 obtain ⟨gm, cY, hM⟩ := M.e_bind hM
 refine s_call cf42 [I 4] rfl (zag 4 cY _ (H.gt 2)) ?_
 rintro vq gn ⟨cZ, c0, c6, c7, b9, ca, c8, c9, da, db, dc, dd, gp, gq, de, hvq, ah, dg⟩
 subst de
 subst vq
 try dsimp only at hM
 replace H := H.bk ah
 clear ah
 obtain ⟨gr, di, hM⟩ := M.e_bind hM
 refine s_call cf22 [.agg #[c9, da, db, dc, I b9, I ca, dd]] rfl (zbg cZ c0 c6 c7 b9 ca c8 (rdo 0) (H.os 0) (rdo 1) (H.os 1) (rdo 2) (H.os 2) (rdo 3) (H.os 3) (Reads.sup (rdo 4) (Reads.of (k := 5) rfl roLe)) (rowSl rfl (H.get (k := 4) rfl) (roLe _ (H.get (k := 5) rfl)) dg) di _ (H.gt 8)) ?_
 rintro vq gu ⟨gv, aj, aR, dk, hvq, ah⟩
 subst dk
 subst vq
 try dsimp only at hM
 replace H := H.bk ah
 clear ah
 refine zM (.tuple #[aR, I aj]) rfl ?_
 refine zX [aR, I aj] aR rfl rfl ?_
 refine zX [aR, I aj] (I aj) rfl rfl ?_
 refine zA aR rfl ?_
 refine zA (I aj) rfl ?_
 refine s_nil ?_
 replace H := H.pk [7, 8]
 refine W.seq ?_
 refine W.region rfl ?_
 obtain ⟨gw, dm, hM⟩ := M.e_bind hM
 refine s_call cf42 [I 3] rfl (zag 3 dm _ (H.gt 2)) ?_
 rintro vq gx ⟨dq, dr, dt, du, cb, cc, dv, dw, dx, dy, dz, dA, gy, gz, dB, hvq, ah, dC⟩
 subst dB
 subst vq
 try dsimp only at hM
 replace H := H.bk ah
 clear ah
 obtain ⟨gA, dD, hM⟩ := M.e_bind hM
 refine s_call cf22 [.agg #[dw, dx, dy, dz, I cb, I cc, dA]] rfl (zbg dq dr dt du cb cc dv (rdo 0) (H.os 0) (rdo 1) (H.os 1) (rdo 2) (H.os 2) (rdo 3) (H.os 3) (Reads.sup (rdo 4) (Reads.of (k := 5) rfl roLe)) (rowSl rfl (H.get (k := 4) rfl) (roLe _ (H.get (k := 5) rfl)) dC) dD _ (H.gt 8)) ?_
 rintro vq gB ⟨aw, ak, aO, dE, hvq, ah⟩
 subst dE
 subst vq
 try dsimp only at hM
 replace H := H.bk ah
 clear ah
 refine zM (.tuple #[aO, I ak]) rfl ?_
 refine zX [aO, I ak] aO rfl rfl ?_
 refine zX [aO, I ak] (I ak) rfl rfl ?_
 refine zA aO rfl ?_
 refine zA (I ak) rfl ?_
 refine s_nil ?_
 replace H := H.pk [0, 7, 8]
 refine W.seq ?_
 refine W.region rfl ?_
 obtain ⟨gC, dF, hM⟩ := M.e_bind hM
 refine s_call cf42 [I 1] rfl (zag 1 dF _ (H.gt 3)) ?_
 rintro vq gD ⟨dG, dH, dI, dJ, cd, ce, dK, dL, dM, dN, dO, dP, gE, gF, dQ, hvq, ah, dR⟩
 subst dQ
 subst vq
 try dsimp only at hM
 replace H := H.bk ah
 clear ah
 obtain ⟨gG, dS, hM⟩ := M.e_bind hM
 refine s_call cf22 [.agg #[dL, dM, dN, dO, I cd, I ce, dP]] rfl (zbg dG dH dI dJ cd ce dK (rdo 0) (H.os 0) (rdo 1) (H.os 1) (rdo 2) (H.os 2) (rdo 3) (H.os 3) (Reads.sup (rdo 4) (Reads.of (k := 5) rfl roLe)) (rowSl rfl (H.get (k := 4) rfl) (roLe _ (H.get (k := 5) rfl)) dR) dS _ (H.gt 9)) ?_
 rintro vq gH ⟨cf, am, aM, dT, hvq, ah⟩
 subst dT
 subst vq
 try dsimp only at hM
 replace H := H.bk ah
 clear ah
 refine zM (.tuple #[aM, I am]) rfl ?_
 refine zX [aM, I am] aM rfl rfl ?_
 refine zX [aM, I am] (I am) rfl rfl ?_
 refine zA aM rfl ?_
 refine zA (I am) rfl ?_
 refine s_nil ?_
 replace H := H.pk [0, 7, 8, 9]
 refine W.seq ?_
 refine W.region rfl ?_
 obtain ⟨gI, dU, hM⟩ := M.e_bind hM
 refine s_call cf42 [I 4] rfl (zag 4 dU _ (H.gt 4)) ?_
 rintro vq gJ ⟨dV, dW, dX, dY, cg, ch, dZ, d3, d4, d5, d6, d7, gK, gL, d8, hvq, ah, d9⟩
 subst d8
 subst vq
 try dsimp only at hM
 replace H := H.bk ah
 clear ah
 obtain ⟨gM, ea, hM⟩ := M.e_bind hM
 refine s_call cf28 [.agg #[d3, d4, d5, d6, I cg, I ch, d7], I 0, I 0] rfl (zdN dV dW dX dY cg ch dZ 0 0 (rdo 0) (H.os 0) (rdo 1) (H.os 1) (rdo 2) (H.os 2) (rdo 3) (H.os 3) (Reads.sup (rdo 4) (Reads.of (k := 5) rfl roLe)) (rowSl rfl (H.get (k := 4) rfl) (roLe _ (H.get (k := 5) rfl)) d9) ea _ (H.gt 10)) ?_
 rintro vq gN ⟨az, aA, ao, eb, hvq, ah⟩
 subst eb
 subst vq
 try dsimp only at hM
 replace H := H.bk ah
 clear ah
 refine zM (.tuple #[.agg #[I az, I aA], I ao]) rfl ?_
 refine zX [.agg #[I az, I aA], I ao] (.agg #[I az, I aA]) rfl rfl ?_
 refine zX [.agg #[I az, I aA], I ao] (I ao) rfl rfl ?_
 refine t_alloc (cs := [I 0, I 0]) H Al27 rfl ?_
 intro ck gO H
 refine t_sw 0 0 [I az, I aA] (.agg #[I az, I aA]) H rfl rfl Sz27 rfl rfl rfl rfl ?_
 intro gP H
 refine zA (I ao) rfl ?_
 refine s_nil ?_
 replace H := H.pk [0, 7, 8, 9, 10]
 refine W.seq ?_
 refine W.seq ?_
 refine W.draw (fun W => St w W [cBlk ck [I az, I aA] 27, cOwn (α := Int) 3 aM cf, cOwn (α := Int) 3 aO aw, cOwn (α := Int) 3 aN av, cOwn (α := Int) 3 aL b6] R) [(0, true), (1, true), (2, true), (3, true), (4, true), (5, true), (6, true), (7, true), (8, true), (9, true), (10, true), (11, true), (12, true), (13, true), (14, true), (15, true), (16, true), (17, true), (18, true), (19, true), (20, true), (21, true), (22, true), (23, true), (24, false), (25, false), (26, true), (27, true), (28, true), (29, true), (30, true), (31, true), (32, true), (33, true), (34, true), (35, true), (36, true), (37, true), (38, true), (39, true), (40, false), (41, false), (42, true), (43, true), (44, true), (45, true), (46, false), (47, true), (48, true)] mixed (by decide +kernel) rfl ?_
 intro gQ aQ
 replace H := H.ext aQ
 clear aQ
 refine ⟨(H.pk [0, 1, 2, 3, 4]), ?_⟩
 refine d_q rfl (fun w' H => x_mv (v := I ag) rfl) ?_
 refine d_q rfl (fun w' H => x_cmp (kd := .i64) (a := ag) (b := 0) (r := ag != 0) rfl rfl rfl) ?_
 refine d_q rfl (fun w' H => x_mv (v := B (ag != 0)) rfl) ?_
 refine d_qg (!(ag != 0)) rfl (gy_f rfl) (fun hg => (fun w' H => x_mv (v := I ai) rfl)) ?_
 refine d_qg (!(ag != 0)) rfl (gy_f rfl) (fun hg => (fun w' H => x_cmp (kd := .i64) (a := ai) (b := 0) (r := ai != 0) (gd_of (c := !(ag != 0)) hg (I ai)) rfl rfl)) ?_
 refine d_q rfl (fun w' H => x_por (b := ag != 0) (r := ai != 0) rfl rfl (fun hb => gd_of (c := !(ag != 0)) (by first | exact hb | (rw [hb]; rfl) | simp_all) (B (ai != 0)))) ?_
 refine d_q rfl (fun w' H => x_mv (v := B ((ag != 0) || (ai != 0))) rfl) ?_
 refine d_qg (!((ag != 0) || (ai != 0))) rfl (gy_f rfl) (fun hg => (fun w' H => x_mv (v := I aj) rfl)) ?_
 refine d_qg (!((ag != 0) || (ai != 0))) rfl (gy_f rfl) (fun hg => (fun w' H => x_cmp (kd := .i64) (a := aj) (b := 6) (r := aj != 6) (gd_of (c := !((ag != 0) || (ai != 0))) hg (I aj)) rfl rfl)) ?_
 refine d_q rfl (fun w' H => x_por (b := ((ag != 0) || (ai != 0))) (r := aj != 6) rfl rfl (fun hb => gd_of (c := !((ag != 0) || (ai != 0))) (by first | exact hb | (rw [hb]; rfl) | simp_all) (B (aj != 6)))) ?_
 refine d_q rfl (fun w' H => x_mv (v := B (((ag != 0) || (ai != 0)) || (aj != 6))) rfl) ?_
 refine d_qg (!(((ag != 0) || (ai != 0)) || (aj != 6))) rfl (gy_f rfl) (fun hg => (fun w' H => x_mv (v := I ak) rfl)) ?_
 refine d_qg (!(((ag != 0) || (ai != 0)) || (aj != 6))) rfl (gy_f rfl) (fun hg => (fun w' H => x_cmp (kd := .i64) (a := ak) (b := 0) (r := ak != 0) (gd_of (c := !(((ag != 0) || (ai != 0)) || (aj != 6))) hg (I ak)) rfl rfl)) ?_
 refine d_q rfl (fun w' H => x_por (b := (((ag != 0) || (ai != 0)) || (aj != 6))) (r := ak != 0) rfl rfl (fun hb => gd_of (c := !(((ag != 0) || (ai != 0)) || (aj != 6))) (by first | exact hb | (rw [hb]; rfl) | simp_all) (B (ak != 0)))) ?_
 refine d_q rfl (fun w' H => x_mv (v := B ((((ag != 0) || (ai != 0)) || (aj != 6)) || (ak != 0))) rfl) ?_
 refine d_qg (!((((ag != 0) || (ai != 0)) || (aj != 6)) || (ak != 0))) rfl (gy_f rfl) (fun hg => (fun w' H => x_mv (v := I am) rfl)) ?_
 refine d_qg (!((((ag != 0) || (ai != 0)) || (aj != 6)) || (ak != 0))) rfl (gy_f rfl) (fun hg => (fun w' H => x_cmp (kd := .i64) (a := am) (b := 0) (r := am != 0) (gd_of (c := !((((ag != 0) || (ai != 0)) || (aj != 6)) || (ak != 0))) hg (I am)) rfl rfl)) ?_
 refine d_q rfl (fun w' H => x_por (b := ((((ag != 0) || (ai != 0)) || (aj != 6)) || (ak != 0))) (r := am != 0) rfl rfl (fun hb => gd_of (c := !((((ag != 0) || (ai != 0)) || (aj != 6)) || (ak != 0))) (by first | exact hb | (rw [hb]; rfl) | simp_all) (B (am != 0)))) ?_
 refine d_q rfl (fun w' H => x_mv (v := B (((((ag != 0) || (ai != 0)) || (aj != 6)) || (ak != 0)) || (am != 0))) rfl) ?_
 refine d_qg (!(((((ag != 0) || (ai != 0)) || (aj != 6)) || (ak != 0)) || (am != 0))) rfl (gy_f rfl) (fun hg => (fun w' H => x_mv (v := I ao) rfl)) ?_
 refine d_qg (!(((((ag != 0) || (ai != 0)) || (aj != 6)) || (ak != 0)) || (am != 0))) rfl (gy_f rfl) (fun hg => (fun w' H => x_cmp (kd := .i64) (a := ao) (b := 0) (r := ao != 0) (gd_of (c := !(((((ag != 0) || (ai != 0)) || (aj != 6)) || (ak != 0)) || (am != 0))) hg (I ao)) rfl rfl)) ?_
 refine d_q rfl (fun w' H => x_por (b := (((((ag != 0) || (ai != 0)) || (aj != 6)) || (ak != 0)) || (am != 0))) (r := ao != 0) rfl rfl (fun hb => gd_of (c := !(((((ag != 0) || (ai != 0)) || (aj != 6)) || (ak != 0)) || (am != 0))) (by first | exact hb | (rw [hb]; rfl) | simp_all) (B (ao != 0)))) ?_
 refine d_q rfl (fun w' H => x_mv (v := B ((((((ag != 0) || (ai != 0)) || (aj != 6)) || (ak != 0)) || (am != 0)) || (ao != 0))) rfl) ?_
 refine d_qg (!((((((ag != 0) || (ai != 0)) || (aj != 6)) || (ak != 0)) || (am != 0)) || (ao != 0))) rfl (gy_f rfl) (fun hg => (fun w' H => x_mv (v := aL) rfl)) ?_
 refine d_l rfl ?_
 refine t_gbs (α := Int) T23 (!((((((ag != 0) || (ai != 0)) || (aj != 6)) || (ak != 0)) || (am != 0)) || (ao != 0))) (gy_f rfl) [I 0] [(0 : Int)] H (fun _ => rfl) (.cons rfl (Flat.rep_enc _ (0 : Int)) <| .nil) rfl rfl rfl ?_
 intro cm gR gS H ec
 refine s_nil ⟨(H.pk [1, 2, 3, 4, 5]), ?_⟩
 refine d_l rfl ?_
 obtain ⟨r7, ed, hM⟩ := M.e_bind hM
 refine t_gcall (!((((((ag != 0) || (ai != 0)) || (aj != 6)) || (ak != 0)) || (am != 0)) || (ao != 0))) (gy_f rfl) cf18 (B r7) (fun _ => [aL, cm]) (fun hg => lst2 (gd_of (c := !((((((ag != 0) || (ai != 0)) || (aj != 6)) || (ak != 0)) || (am != 0)) || (ao != 0))) hg (aL)) (gd_of (c := !((((((ag != 0) || (ai != 0)) || (aj != 6)) || (ak != 0)) || (am != 0)) || (ao != 0))) hg (cm))) H (fun hg => (zai b6 ([(0 : Int)]) (rdo 5) (H.os 5) (Reads.of (k := 0) rfl roLe) (ec hg) (M.e_opt ed hg) _ (H.give (A := []) rfl)).mono fun v_ w_ ⟨y_, ax, aB, H_⟩ => by subst ax; exact ⟨aB, H.via H_⟩) ?_
 intro gT H
 refine s_nil ⟨(H.pk [1, 2, 3, 4, 5]), ?_⟩
 refine d_qg (!((((((ag != 0) || (ai != 0)) || (aj != 6)) || (ak != 0)) || (am != 0)) || (ao != 0))) rfl (gy_f rfl) (fun hg => (fun w' H => x_not (b := r7) (gd_of (c := !((((((ag != 0) || (ai != 0)) || (aj != 6)) || (ak != 0)) || (am != 0)) || (ao != 0))) hg (B r7)))) ?_
 refine d_q rfl (fun w' H => x_por (b := ((((((ag != 0) || (ai != 0)) || (aj != 6)) || (ak != 0)) || (am != 0)) || (ao != 0))) (r := !r7) rfl rfl (fun hb => gd_of (c := !((((((ag != 0) || (ai != 0)) || (aj != 6)) || (ak != 0)) || (am != 0)) || (ao != 0))) (by first | exact hb | (rw [hb]; rfl) | simp_all) (B (!r7)))) ?_
 refine d_q rfl (fun w' H => x_mv (v := B (((((((ag != 0) || (ai != 0)) || (aj != 6)) || (ak != 0)) || (am != 0)) || (ao != 0)) || (!r7))) rfl) ?_
 refine d_qg (!(((((((ag != 0) || (ai != 0)) || (aj != 6)) || (ak != 0)) || (am != 0)) || (ao != 0)) || (!r7))) rfl (gy_f rfl) (fun hg => (fun w' H => x_mv (v := aN) rfl)) ?_
 refine d_qg (!(((((((ag != 0) || (ai != 0)) || (aj != 6)) || (ak != 0)) || (am != 0)) || (ao != 0)) || (!r7))) rfl (gy_f rfl) (fun hg => (fun w' H => x_lenS T23.und (gd_of (c := !(((((((ag != 0) || (ai != 0)) || (aj != 6)) || (ak != 0)) || (am != 0)) || (ao != 0)) || (!r7))) hg (aN)) (H.os 3))) ?_
 refine d_qg (!(((((((ag != 0) || (ai != 0)) || (aj != 6)) || (ak != 0)) || (am != 0)) || (ao != 0)) || (!r7))) rfl (gy_f rfl) (fun hg => (fun w' H => x_cmp (kd := .i64) (a := (av.length : Int)) (b := 0) (r := decide (0 < (av.length : Int))) (gd_of (c := !(((((((ag != 0) || (ai != 0)) || (aj != 6)) || (ak != 0)) || (am != 0)) || (ao != 0)) || (!r7))) hg (I (av.length : Int))) rfl rfl)) ?_
 refine d_q rfl (fun w' H => x_por (b := (((((((ag != 0) || (ai != 0)) || (aj != 6)) || (ak != 0)) || (am != 0)) || (ao != 0)) || (!r7))) (r := decide (0 < (av.length : Int))) rfl rfl (fun hb => gd_of (c := !(((((((ag != 0) || (ai != 0)) || (aj != 6)) || (ak != 0)) || (am != 0)) || (ao != 0)) || (!r7))) (by first | exact hb | (rw [hb]; rfl) | simp_all) (B (decide (0 < (av.length : Int)))))) ?_
 refine d_q rfl (fun w' H => x_mv (v := B ((((((((ag != 0) || (ai != 0)) || (aj != 6)) || (ak != 0)) || (am != 0)) || (ao != 0)) || (!r7)) || (decide (0 < (av.length : Int))))) rfl) ?_
 refine d_qg (!((((((((ag != 0) || (ai != 0)) || (aj != 6)) || (ak != 0)) || (am != 0)) || (ao != 0)) || (!r7)) || (decide (0 < (av.length : Int))))) rfl (gy_f rfl) (fun hg => (fun w' H => x_mv (v := aO) rfl)) ?_
 refine d_qg (!((((((((ag != 0) || (ai != 0)) || (aj != 6)) || (ak != 0)) || (am != 0)) || (ao != 0)) || (!r7)) || (decide (0 < (av.length : Int))))) rfl (gy_f rfl) (fun hg => (fun w' H => x_lenS T23.und (gd_of (c := !((((((((ag != 0) || (ai != 0)) || (aj != 6)) || (ak != 0)) || (am != 0)) || (ao != 0)) || (!r7)) || (decide (0 < (av.length : Int))))) hg (aO)) (H.os 2))) ?_
 refine d_qg (!((((((((ag != 0) || (ai != 0)) || (aj != 6)) || (ak != 0)) || (am != 0)) || (ao != 0)) || (!r7)) || (decide (0 < (av.length : Int))))) rfl (gy_f rfl) (fun hg => (fun w' H => x_cmp (kd := .i64) (a := (aw.length : Int)) (b := 2) (r := (aw.length : Int) != 2) (gd_of (c := !((((((((ag != 0) || (ai != 0)) || (aj != 6)) || (ak != 0)) || (am != 0)) || (ao != 0)) || (!r7)) || (decide (0 < (av.length : Int))))) hg (I (aw.length : Int))) rfl rfl)) ?_
 refine d_q rfl (fun w' H => x_por (b := ((((((((ag != 0) || (ai != 0)) || (aj != 6)) || (ak != 0)) || (am != 0)) || (ao != 0)) || (!r7)) || (decide (0 < (av.length : Int))))) (r := (aw.length : Int) != 2) rfl rfl (fun hb => gd_of (c := !((((((((ag != 0) || (ai != 0)) || (aj != 6)) || (ak != 0)) || (am != 0)) || (ao != 0)) || (!r7)) || (decide (0 < (av.length : Int))))) (by first | exact hb | (rw [hb]; rfl) | simp_all) (B ((aw.length : Int) != 2)))) ?_
 refine d_q rfl (fun w' H => x_mv (v := B (((((((((ag != 0) || (ai != 0)) || (aj != 6)) || (ak != 0)) || (am != 0)) || (ao != 0)) || (!r7)) || (decide (0 < (av.length : Int)))) || ((aw.length : Int) != 2))) rfl) ?_
 refine d_qg (!(((((((((ag != 0) || (ai != 0)) || (aj != 6)) || (ak != 0)) || (am != 0)) || (ao != 0)) || (!r7)) || (decide (0 < (av.length : Int)))) || ((aw.length : Int) != 2))) rfl (gy_f rfl) (fun hg => (fun w' H => x_mv (v := aM) rfl)) ?_
 refine d_l rfl ?_
 refine t_gbs (α := Int) T23 (!(((((((((ag != 0) || (ai != 0)) || (aj != 6)) || (ak != 0)) || (am != 0)) || (ao != 0)) || (!r7)) || (decide (0 < (av.length : Int)))) || ((aw.length : Int) != 2))) (gy_f rfl) [I 2] [(2 : Int)] H (fun _ => rfl) (.cons rfl (Flat.rep_enc _ (2 : Int)) <| .nil) rfl rfl rfl ?_
 intro cn gU gV H ee
 refine s_nil ⟨(H.pk [2, 3, 4, 5, 6]), ?_⟩
 refine d_l rfl ?_
 obtain ⟨r8, ef, hM⟩ := M.e_bind hM
 refine t_gcall (!(((((((((ag != 0) || (ai != 0)) || (aj != 6)) || (ak != 0)) || (am != 0)) || (ao != 0)) || (!r7)) || (decide (0 < (av.length : Int)))) || ((aw.length : Int) != 2))) (gy_f rfl) cf18 (B r8) (fun _ => [aM, cn]) (fun hg => lst2 (gd_of (c := !(((((((((ag != 0) || (ai != 0)) || (aj != 6)) || (ak != 0)) || (am != 0)) || (ao != 0)) || (!r7)) || (decide (0 < (av.length : Int)))) || ((aw.length : Int) != 2))) hg (aM)) (gd_of (c := !(((((((((ag != 0) || (ai != 0)) || (aj != 6)) || (ak != 0)) || (am != 0)) || (ao != 0)) || (!r7)) || (decide (0 < (av.length : Int)))) || ((aw.length : Int) != 2))) hg (cn))) H (fun hg => (zai cf ([(2 : Int)]) (rdo 3) (H.os 3) (Reads.of (k := 0) rfl roLe) (ee hg) (M.e_opt ef hg) _ (H.give (A := []) rfl)).mono fun v_ w_ ⟨y_, ax, aB, H_⟩ => by subst ax; exact ⟨aB, H.via H_⟩) ?_
 intro gW H
 refine s_nil ⟨(H.pk [2, 3, 4, 5, 6]), ?_⟩
 refine d_qg (!(((((((((ag != 0) || (ai != 0)) || (aj != 6)) || (ak != 0)) || (am != 0)) || (ao != 0)) || (!r7)) || (decide (0 < (av.length : Int)))) || ((aw.length : Int) != 2))) rfl (gy_f rfl) (fun hg => (fun w' H => x_not (b := r8) (gd_of (c := !(((((((((ag != 0) || (ai != 0)) || (aj != 6)) || (ak != 0)) || (am != 0)) || (ao != 0)) || (!r7)) || (decide (0 < (av.length : Int)))) || ((aw.length : Int) != 2))) hg (B r8)))) ?_
 refine d_q rfl (fun w' H => x_por (b := (((((((((ag != 0) || (ai != 0)) || (aj != 6)) || (ak != 0)) || (am != 0)) || (ao != 0)) || (!r7)) || (decide (0 < (av.length : Int)))) || ((aw.length : Int) != 2))) (r := !r8) rfl rfl (fun hb => gd_of (c := !(((((((((ag != 0) || (ai != 0)) || (aj != 6)) || (ak != 0)) || (am != 0)) || (ao != 0)) || (!r7)) || (decide (0 < (av.length : Int)))) || ((aw.length : Int) != 2))) (by first | exact hb | (rw [hb]; rfl) | simp_all) (B (!r8)))) ?_
 refine d_q rfl (fun w' H => x_mv (v := B ((((((((((ag != 0) || (ai != 0)) || (aj != 6)) || (ak != 0)) || (am != 0)) || (ao != 0)) || (!r7)) || (decide (0 < (av.length : Int)))) || ((aw.length : Int) != 2)) || (!r8))) rfl) ?_
 refine d_qg (!((((((((((ag != 0) || (ai != 0)) || (aj != 6)) || (ak != 0)) || (am != 0)) || (ao != 0)) || (!r7)) || (decide (0 < (av.length : Int)))) || ((aw.length : Int) != 2)) || (!r8))) rfl (gy_f rfl) (fun hg => (fun w' H => x_ld (p := Pq ck) (v := .agg #[I az, I aA]) rfl (ldb_ag (ds := [I az, I aA]) Ag27 Sz27 (H.bl 0) rfl rfl))) ?_
 refine d_l rfl ?_
 refine g_splitV (!((((((((((ag != 0) || (ai != 0)) || (aj != 6)) || (ak != 0)) || (am != 0)) || (ao != 0)) || (!r7)) || (decide (0 < (av.length : Int)))) || ((aw.length : Int) != 2)) || (!r8))) (.agg #[I 0, I 0]) (gy_f rfl) (fun bb => ?_) (fun bb => ?_)
 ·replace hM := M.e_t hM bb
  obtain ⟨gX, eg, hM⟩ := M.e_bind hM
  refine s_call cf43 [I 6, I 10] rfl (zbd 6 10 eg _ (H.gt 7)) ?_
  rintro vq gY ⟨a6, a7, eh, hvq, ah⟩
  subst eh
  subst vq
  try dsimp only at hM
  replace H := H.bk ah
  clear ah
  refine s_nil ⟨(H.pk [2, 3, 4, 5, 6]), ?_⟩
  refine d_qg (!((((((((((ag != 0) || (ai != 0)) || (aj != 6)) || (ak != 0)) || (am != 0)) || (ao != 0)) || (!r7)) || (decide (0 < (av.length : Int)))) || ((aw.length : Int) != 2)) || (!r8))) rfl (gy_f rfl) (fun hg => (fun w' H => x_neS (eqT27 (⟨(az : Int), (aA : Int)⟩ : Span) (⟨(a6 : Int), (a7 : Int)⟩ : Span) _) gdT27 (gd_of (c := !((((((((((ag != 0) || (ai != 0)) || (aj != 6)) || (ak != 0)) || (am != 0)) || (ao != 0)) || (!r7)) || (decide (0 < (av.length : Int)))) || ((aw.length : Int) != 2)) || (!r8))) hg (.agg #[I az, I aA])) rfl)) ?_
  refine d_q rfl (fun w' H => x_por (b := ((((((((((ag != 0) || (ai != 0)) || (aj != 6)) || (ak != 0)) || (am != 0)) || (ao != 0)) || (!r7)) || (decide (0 < (av.length : Int)))) || ((aw.length : Int) != 2)) || (!r8))) (r := !(decide ((⟨(az : Int), (aA : Int)⟩ : Span) = (⟨(a6 : Int), (a7 : Int)⟩ : Span)))) rfl rfl (fun hb => gd_of (c := !((((((((((ag != 0) || (ai != 0)) || (aj != 6)) || (ak != 0)) || (am != 0)) || (ao != 0)) || (!r7)) || (decide (0 < (av.length : Int)))) || ((aw.length : Int) != 2)) || (!r8))) (by first | exact hb | (rw [hb]; rfl) | simp_all) (B (!(decide ((⟨(az : Int), (aA : Int)⟩ : Span) = (⟨(a6 : Int), (a7 : Int)⟩ : Span))))))) ?_
  refine d_nil ?_
  replace H := H.pk []
  refine W.cond (((((((((((ag != 0) || (ai != 0)) || (aj != 6)) || (ak != 0)) || (am != 0)) || (ao != 0)) || (!r7)) || (decide (0 < (av.length : Int)))) || ((aw.length : Int) != 2)) || (!r8)) || (!(decide ((⟨(az : Int), (aA : Int)⟩ : Span) = (⟨(a6 : Int), (a7 : Int)⟩ : Span))))) rfl (fun bc => ?_) (fun bc => ?_)
  ·replace hM := M.e_t hM bc
   refine W.seq ?_
   refine W.region rfl ?_
   refine zA (B false) rfl ?_
   refine s_nil ?_
   refine W.ret ?_
   have ax := M.e_pure hM
   exact ⟨_, resE_tmp rfl, ⟨false, ax, rfl, H⟩⟩
  replace hM := M.e_f hM bc
  refine W.skip ?_
  refine W.seq ?_
  refine W.region rfl ?_
  obtain ⟨gZ, ei, hM⟩ := M.e_bind hM
  refine s_call cf42 [I 1] rfl (zag 1 ei _ (H.gt 0)) ?_
  rintro vq g0 ⟨bf, bg, bh, bi, aS, aT, bj, bm, bn, bo, bp, bq, ej, em, en, hvq, ah, eo⟩
  subst en
  subst vq
  try dsimp only at hM
  replace H := H.bk ah
  clear ah
  refine t_bs (α := Int) T23 [I 2] [(2 : Int)] H rfl (.cons rfl (Flat.rep_enc _ (2 : Int)) <| .nil) rfl rfl rfl ?_
  intro ep hG H
  obtain ⟨hJ, eq, hM⟩ := M.e_bind hM
  refine s_call cf11 [.agg #[bm, bn, bo, bp, I aS, I aT, bq], ep] rfl (zcL bf bg bh bi aS aT bj ([(2 : Int)]) (rdo 1) (H.os 1) (rdo 2) (H.os 2) (rdo 3) (H.os 3) (rdo 4) (H.os 4) (Reads.sup (rdo 5) (Reads.of (k := 6) rfl roLe)) (rowSl rfl (H.get (k := 5) rfl) (roLe _ (H.get (k := 6) rfl)) eo) (rdo 0) (H.os 0) eq _ (H.gt 7)) ?_
  rintro vq hN ⟨br, bt, aa, aC, aD, eu, hvq, ah⟩
  subst eu
  subst vq
  try dsimp only at hM
  replace H := H.bk ah
  clear ah
  refine zM (.tuple #[aC, aD, I aa]) rfl ?_
  refine zX [aC, aD, I aa] aC rfl rfl ?_
  refine zX [aC, aD, I aa] aD rfl rfl ?_
  refine zX [aC, aD, I aa] (I aa) rfl rfl ?_
  refine zA aC rfl ?_
  refine zA aD rfl ?_
  refine zA (I aa) rfl ?_
  refine s_nil ?_
  replace H := H.pk [0, 1]
  refine W.seq ?_
  refine W.region rfl ?_
  obtain ⟨hO, ew, hM⟩ := M.e_bind hM
  refine s_call cf42 [I 1] rfl (zag 1 ew _ (H.gt 2)) ?_
  rintro vq hP ⟨bu, bv, bw, bx, aU, aV, bz, bA, bB, bC, bD, bE, ez, eA, eB, hvq, ah, eC⟩
  subst eB
  subst vq
  try dsimp only at hM
  replace H := H.bk ah
  clear ah
  refine t_bs (α := Int) T23 [I 2] [(2 : Int)] H rfl (.cons rfl (Flat.rep_enc _ (2 : Int)) <| .nil) rfl rfl rfl ?_
  intro eD hZ H
  refine t_bs (α := Int) T23 [I 250] [(250 : Int)] H rfl (.cons rfl (Flat.rep_enc _ (250 : Int)) <| .nil) rfl rfl rfl ?_
  intro eE ia H
  obtain ⟨ib, eF, hM⟩ := M.e_bind hM
  refine s_call cf12 [.agg #[bA, bB, bC, bD, I aU, I aV, bE], eD, eE] rfl (zaZ bu bv bw bx aU aV bz ([(2 : Int)]) ([(250 : Int)]) (rdo 2) (H.os 2) (rdo 3) (H.os 3) (rdo 4) (H.os 4) (rdo 5) (H.os 5) (Reads.sup (rdo 6) (Reads.of (k := 7) rfl roLe)) (rowSl rfl (H.get (k := 6) rfl) (roLe _ (H.get (k := 7) rfl)) eC) (rdo 1) (H.os 1) (rdo 0) (H.os 0) eF _ (H.gt 10)) ?_
  rintro vq ic ⟨aq, au, ab, aG, aH, eG, hvq, ah⟩
  subst eG
  subst vq
  try dsimp only at hM
  replace H := H.bk ah
  clear ah
  refine zM (.tuple #[aG, aH, I ab]) rfl ?_
  refine zX [aG, aH, I ab] aG rfl rfl ?_
  refine zX [aG, aH, I ab] aH rfl rfl ?_
  refine zX [aG, aH, I ab] (I ab) rfl rfl ?_
  refine zA aG rfl ?_
  refine zA aH rfl ?_
  refine zA (I ab) rfl ?_
  refine s_nil ?_
  replace H := H.pk [0, 1, 10, 11]
  refine W.seq ?_
  refine W.region rfl ?_
  obtain ⟨ie, eH, hM⟩ := M.e_bind hM
  refine s_call cf42 [I 1] rfl (zag 1 eH _ (H.gt 4)) ?_
  rintro vq ig ⟨bF, bG, bH, bI, aW, aX, bJ, bK, bL, bM, bN, bO, eI, eJ, eK, hvq, ah, eL⟩
  subst eK
  subst vq
  try dsimp only at hM
  replace H := H.bk ah
  clear ah
  refine t_bs (α := Int) T23 [I 2] [(2 : Int)] H rfl (.cons rfl (Flat.rep_enc _ (2 : Int)) <| .nil) rfl rfl rfl ?_
  intro eM ii H
  refine t_bs (α := Int) T23 [I 240] [(240 : Int)] H rfl (.cons rfl (Flat.rep_enc _ (240 : Int)) <| .nil) rfl rfl rfl ?_
  intro eN ij H
  obtain ⟨ik, eO, hM⟩ := M.e_bind hM
  refine s_call cf12 [.agg #[bK, bL, bM, bN, I aW, I aX, bO], eM, eN] rfl (zaZ bF bG bH bI aW aX bJ ([(2 : Int)]) ([(240 : Int)]) (rdo 2) (H.os 2) (rdo 3) (H.os 3) (rdo 4) (H.os 4) (rdo 5) (H.os 5) (Reads.sup (rdo 6) (Reads.of (k := 7) rfl roLe)) (rowSl rfl (H.get (k := 6) rfl) (roLe _ (H.get (k := 7) rfl)) eL) (rdo 1) (H.os 1) (rdo 0) (H.os 0) eO _ (H.gt 12)) ?_
  rintro vq il ⟨eP, bP, ac, aI, aE, eQ, hvq, ah⟩
  subst eQ
  subst vq
  try dsimp only at hM
  replace H := H.bk ah
  clear ah
  refine zM (.tuple #[aI, aE, I ac]) rfl ?_
  refine zX [aI, aE, I ac] aI rfl rfl ?_
  refine zX [aI, aE, I ac] aE rfl rfl ?_
  refine zX [aI, aE, I ac] (I ac) rfl rfl ?_
  refine zA aI rfl ?_
  refine zA aE rfl ?_
  refine zA (I ac) rfl ?_
  refine s_nil ?_
  replace H := H.pk [1, 10, 11, 12, 13]
  refine W.seq ?_
  refine W.region rfl ?_
  obtain ⟨im, eR, hM⟩ := M.e_bind hM
  refine s_call cf42 [I 1] rfl (zag 1 eR _ (H.gt 5)) ?_
  rintro vq io ⟨bQ, bR, bS, bT, aY, aZ, bU, bV, bW, bX, bY, bZ, eS, eT, eU, hvq, ah, eV⟩
  subst eU
  subst vq
  try dsimp only at hM
  replace H := H.bk ah
  clear ah
  refine t_bs (α := Int) T23 [I 2] [(2 : Int)] H rfl (.cons rfl (Flat.rep_enc _ (2 : Int)) <| .nil) rfl rfl rfl ?_
  intro eW ip H
  refine t_bs (α := Int) T23 [I 251] [(251 : Int)] H rfl (.cons rfl (Flat.rep_enc _ (251 : Int)) <| .nil) rfl rfl rfl ?_
  intro eX iq H
  obtain ⟨ir, eY, hM⟩ := M.e_bind hM
  refine s_call cf12 [.agg #[bV, bW, bX, bY, I aY, I aZ, bZ], eW, eX] rfl (zaZ bQ bR bS bT aY aZ bU ([(2 : Int)]) ([(251 : Int)]) (rdo 2) (H.os 2) (rdo 3) (H.os 3) (rdo 4) (H.os 4) (rdo 5) (H.os 5) (Reads.sup (rdo 6) (Reads.of (k := 7) rfl roLe)) (rowSl rfl (H.get (k := 6) rfl) (roLe _ (H.get (k := 7) rfl)) eV) (rdo 1) (H.os 1) (rdo 0) (H.os 0) eY _ (H.gt 13)) ?_
  rintro vq iu ⟨b4, eZ, ae, aF, aJ, e7, hvq, ah⟩
  subst e7
  subst vq
  try dsimp only at hM
  replace H := H.bk ah
  clear ah
  refine zM (.tuple #[aF, aJ, I ae]) rfl ?_
  refine zX [aF, aJ, I ae] aF rfl rfl ?_
  refine zX [aF, aJ, I ae] aJ rfl rfl ?_
  refine zX [aF, aJ, I ae] (I ae) rfl rfl ?_
  refine zA aF rfl ?_
  refine zA aJ rfl ?_
  refine zA (I ae) rfl ?_
  refine s_nil ?_
  replace H := H.pk [0, 10, 11, 12, 13, 14]
  refine W.seq ?_
  refine W.region rfl ?_
  refine zM (I aa) rfl ?_
  refine zC aa 0 (aa == 0) rfl rfl rfl ?_
  refine zM (B (aa == 0)) rfl ?_
  refine g_val (aa == 0) (gy_t rfl) (fun hg => x_mv (v := I ab) rfl) ?_
  refine g_val (aa == 0) (gy_t rfl) (fun hg => x_cmp (kd := .i64) (a := ab) (b := 0) (r := ab == 0) (gd_of (c := aa == 0) hg (I ab)) rfl rfl) ?_
  refine s_val (x_pand (b := aa == 0) (r := ab == 0) rfl (fun hb => gd_of (c := aa == 0) (by first | exact hb | (rw [hb]; rfl) | simp_all) (B (ab == 0))) rfl) ?_
  refine zM (B ((aa == 0) && (ab == 0))) rfl ?_
  refine g_val ((aa == 0) && (ab == 0)) (gy_t rfl) (fun hg => x_mv (v := I ac) rfl) ?_
  refine g_val ((aa == 0) && (ab == 0)) (gy_t rfl) (fun hg => x_cmp (kd := .i64) (a := ac) (b := 0) (r := ac == 0) (gd_of (c := ((aa == 0) && (ab == 0))) hg (I ac)) rfl rfl) ?_
  refine s_val (x_pand (b := ((aa == 0) && (ab == 0))) (r := ac == 0) rfl (fun hb => gd_of (c := ((aa == 0) && (ab == 0))) (by first | exact hb | (rw [hb]; rfl) | simp_all) (B (ac == 0))) rfl) ?_
  refine zM (B (((aa == 0) && (ab == 0)) && (ac == 0))) rfl ?_
  refine g_val (((aa == 0) && (ab == 0)) && (ac == 0)) (gy_t rfl) (fun hg => x_mv (v := I ae) rfl) ?_
  refine g_val (((aa == 0) && (ab == 0)) && (ac == 0)) (gy_t rfl) (fun hg => x_cmp (kd := .i64) (a := ae) (b := 0) (r := ae == 0) (gd_of (c := (((aa == 0) && (ab == 0)) && (ac == 0))) hg (I ae)) rfl rfl) ?_
  refine s_val (x_pand (b := (((aa == 0) && (ab == 0)) && (ac == 0))) (r := ae == 0) rfl (fun hb => gd_of (c := (((aa == 0) && (ab == 0)) && (ac == 0))) (by first | exact hb | (rw [hb]; rfl) | simp_all) (B (ae == 0))) rfl) ?_
  refine zM (B ((((aa == 0) && (ab == 0)) && (ac == 0)) && (ae == 0))) rfl ?_
  refine g_val ((((aa == 0) && (ab == 0)) && (ac == 0)) && (ae == 0)) (gy_t rfl) (fun hg => x_mv (v := aC) rfl) ?_
  refine t_gbs (α := Int) T23 ((((aa == 0) && (ab == 0)) && (ac == 0)) && (ae == 0)) (gy_t rfl) [I 250] [(250 : Int)] H (fun _ => rfl) (.cons rfl (Flat.rep_enc _ (250 : Int)) <| .nil) rfl rfl rfl ?_
  intro co e9 iw H fa
  obtain ⟨r9, fb, hM⟩ := M.e_bind hM
  refine t_gcall ((((aa == 0) && (ab == 0)) && (ac == 0)) && (ae == 0)) (gy_t rfl) cf18 (B r9) (fun _ => [aC, co]) (fun hg => lst2 (gd_of (c := ((((aa == 0) && (ab == 0)) && (ac == 0)) && (ae == 0))) hg (aC)) (gd_of (c := ((((aa == 0) && (ab == 0)) && (ac == 0)) && (ae == 0))) hg (co))) H (fun hg => (zai br ([(250 : Int)]) (rdo 5) (H.os 5) (Reads.of (k := 0) rfl roLe) (fa hg) (M.e_opt fb hg) _ (H.give (A := []) rfl)).mono fun v_ w_ ⟨y_, ax, aB, H_⟩ => by subst ax; exact ⟨aB, H.via H_⟩) ?_
  intro iy H
  refine s_val (x_pand (b := ((((aa == 0) && (ab == 0)) && (ac == 0)) && (ae == 0))) (r := r9) rfl (fun hb => gd_of (c := ((((aa == 0) && (ab == 0)) && (ac == 0)) && (ae == 0))) (by first | exact hb | (rw [hb]; rfl) | simp_all) (B r9)) rfl) ?_
  refine zM (B (((((aa == 0) && (ab == 0)) && (ac == 0)) && (ae == 0)) && r9)) rfl ?_
  refine g_val (((((aa == 0) && (ab == 0)) && (ac == 0)) && (ae == 0)) && r9) (gy_t rfl) (fun hg => x_mv (v := aD) rfl) ?_
  refine t_gbs (α := Int) T23 (((((aa == 0) && (ab == 0)) && (ac == 0)) && (ae == 0)) && r9) (gy_t rfl) [I 0] [(0 : Int)] H (fun _ => rfl) (.cons rfl (Flat.rep_enc _ (0 : Int)) <| .nil) rfl rfl rfl ?_
  intro cp fd iz H fe
  obtain ⟨al, fg, hM⟩ := M.e_bind hM
  refine t_gcall (((((aa == 0) && (ab == 0)) && (ac == 0)) && (ae == 0)) && r9) (gy_t rfl) cf18 (B al) (fun _ => [aD, cp]) (fun hg => lst2 (gd_of (c := (((((aa == 0) && (ab == 0)) && (ac == 0)) && (ae == 0)) && r9)) hg (aD)) (gd_of (c := (((((aa == 0) && (ab == 0)) && (ac == 0)) && (ae == 0)) && r9)) hg (cp))) H (fun hg => (zai bt ([(0 : Int)]) (rdo 7) (H.os 7) (Reads.of (k := 0) rfl roLe) (fe hg) (M.e_opt fg hg) _ (H.give (A := []) rfl)).mono fun v_ w_ ⟨y_, ax, aB, H_⟩ => by subst ax; exact ⟨aB, H.via H_⟩) ?_
  intro iA H
  refine s_val (x_pand (b := (((((aa == 0) && (ab == 0)) && (ac == 0)) && (ae == 0)) && r9)) (r := al) rfl (fun hb => gd_of (c := (((((aa == 0) && (ab == 0)) && (ac == 0)) && (ae == 0)) && r9)) (by first | exact hb | (rw [hb]; rfl) | simp_all) (B al)) rfl) ?_
  refine zM (B ((((((aa == 0) && (ab == 0)) && (ac == 0)) && (ae == 0)) && r9) && al)) rfl ?_
  refine g_val ((((((aa == 0) && (ab == 0)) && (ac == 0)) && (ae == 0)) && r9) && al) (gy_t rfl) (fun hg => x_mv (v := aG) rfl) ?_
  refine g_val ((((((aa == 0) && (ab == 0)) && (ac == 0)) && (ae == 0)) && r9) && al) (gy_t rfl) (fun hg => x_lenS T23.und (gd_of (c := ((((((aa == 0) && (ab == 0)) && (ac == 0)) && (ae == 0)) && r9) && al)) hg (aG)) (H.os 4)) ?_
  refine g_val ((((((aa == 0) && (ab == 0)) && (ac == 0)) && (ae == 0)) && r9) && al) (gy_t rfl) (fun hg => x_mv (v := aH) rfl) ?_
  refine g_val ((((((aa == 0) && (ab == 0)) && (ac == 0)) && (ae == 0)) && r9) && al) (gy_t rfl) (fun hg => x_lenS T23.und (gd_of (c := ((((((aa == 0) && (ab == 0)) && (ac == 0)) && (ae == 0)) && r9) && al)) hg (aH)) (H.os 5)) ?_
  obtain ⟨a8, hM⟩ := M.e_grd hM
  replace a8 := M.imp_of a8
  simp only [Bool.and_eq_true, decide_eq_true_eq] at a8
  refine g_val ((((((aa == 0) && (ab == 0)) && (ac == 0)) && (ae == 0)) && r9) && al) (gy_t rfl) (fun hg => x_ari (a := (aq.length : Int)) (b := (au.length : Int)) (r := (aq.length : Int) + (au.length : Int)) (gd_of (c := ((((((aa == 0) && (ab == 0)) && (ac == 0)) && (ae == 0)) && r9) && al)) hg (I (aq.length : Int))) (gd_of (c := ((((((aa == 0) && (ab == 0)) && (ac == 0)) && (ae == 0)) && r9) && al)) hg (I (au.length : Int))) rfl (by have aP := a8.resolve_left (by rw [hg]; decide); first | exact aP | exact aP.1 | exact aP.2 | omega | (have aQ := hg; simp at aQ; omega))) ?_
  refine g_val ((((((aa == 0) && (ab == 0)) && (ac == 0)) && (ae == 0)) && r9) && al) (gy_t rfl) (fun hg => x_cmp (kd := .i64) (a := (aq.length : Int) + (au.length : Int)) (b := 0) (r := ((aq.length : Int) + (au.length : Int)) == 0) (gd_of (c := ((((((aa == 0) && (ab == 0)) && (ac == 0)) && (ae == 0)) && r9) && al)) hg (I ((aq.length : Int) + (au.length : Int)))) rfl rfl) ?_
  refine s_val (x_pand (b := ((((((aa == 0) && (ab == 0)) && (ac == 0)) && (ae == 0)) && r9) && al)) (r := ((aq.length : Int) + (au.length : Int)) == 0) rfl (fun hb => gd_of (c := ((((((aa == 0) && (ab == 0)) && (ac == 0)) && (ae == 0)) && r9) && al)) (by first | exact hb | (rw [hb]; rfl) | simp_all) (B (((aq.length : Int) + (au.length : Int)) == 0))) rfl) ?_
  refine zM (B (((((((aa == 0) && (ab == 0)) && (ac == 0)) && (ae == 0)) && r9) && al) && (((aq.length : Int) + (au.length : Int)) == 0))) rfl ?_
  refine g_val (((((((aa == 0) && (ab == 0)) && (ac == 0)) && (ae == 0)) && r9) && al) && (((aq.length : Int) + (au.length : Int)) == 0)) (gy_t rfl) (fun hg => x_mv (v := aE) rfl) ?_
  refine t_gbs (α := Int) T23 (((((((aa == 0) && (ab == 0)) && (ac == 0)) && (ae == 0)) && r9) && al) && (((aq.length : Int) + (au.length : Int)) == 0)) (gy_t rfl) [I 1] [(1 : Int)] H (fun _ => rfl) (.cons rfl (Flat.rep_enc _ (1 : Int)) <| .nil) rfl rfl rfl ?_
  intro cq fh iB H fi
  obtain ⟨ay, fj, hM⟩ := M.e_bind hM
  refine t_gcall (((((((aa == 0) && (ab == 0)) && (ac == 0)) && (ae == 0)) && r9) && al) && (((aq.length : Int) + (au.length : Int)) == 0)) (gy_t rfl) cf18 (B ay) (fun _ => [aE, cq]) (fun hg => lst2 (gd_of (c := (((((((aa == 0) && (ab == 0)) && (ac == 0)) && (ae == 0)) && r9) && al) && (((aq.length : Int) + (au.length : Int)) == 0))) hg (aE)) (gd_of (c := (((((((aa == 0) && (ab == 0)) && (ac == 0)) && (ae == 0)) && r9) && al) && (((aq.length : Int) + (au.length : Int)) == 0))) hg (cq))) H (fun hg => (zai bP ([(1 : Int)]) (rdo 4) (H.os 4) (Reads.of (k := 0) rfl roLe) (fi hg) (M.e_opt fj hg) _ (H.give (A := []) rfl)).mono fun v_ w_ ⟨y_, ax, aB, H_⟩ => by subst ax; exact ⟨aB, H.via H_⟩) ?_
  intro iC H
  refine s_val (x_pand (b := (((((((aa == 0) && (ab == 0)) && (ac == 0)) && (ae == 0)) && r9) && al) && (((aq.length : Int) + (au.length : Int)) == 0))) (r := ay) rfl (fun hb => gd_of (c := (((((((aa == 0) && (ab == 0)) && (ac == 0)) && (ae == 0)) && r9) && al) && (((aq.length : Int) + (au.length : Int)) == 0))) (by first | exact hb | (rw [hb]; rfl) | simp_all) (B ay)) rfl) ?_
  refine zM (B ((((((((aa == 0) && (ab == 0)) && (ac == 0)) && (ae == 0)) && r9) && al) && (((aq.length : Int) + (au.length : Int)) == 0)) && ay)) rfl ?_
  refine g_val ((((((((aa == 0) && (ab == 0)) && (ac == 0)) && (ae == 0)) && r9) && al) && (((aq.length : Int) + (au.length : Int)) == 0)) && ay) (gy_t rfl) (fun hg => x_mv (v := aF) rfl) ?_
  refine t_gbs (α := Int) T23 ((((((((aa == 0) && (ab == 0)) && (ac == 0)) && (ae == 0)) && r9) && al) && (((aq.length : Int) + (au.length : Int)) == 0)) && ay) (gy_t rfl) [I 0] [(0 : Int)] H (fun _ => rfl) (.cons rfl (Flat.rep_enc _ (0 : Int)) <| .nil) rfl rfl rfl ?_
  intro ct fk iD H fm
  obtain ⟨aK, fo, hM⟩ := M.e_bind hM
  refine t_gcall ((((((((aa == 0) && (ab == 0)) && (ac == 0)) && (ae == 0)) && r9) && al) && (((aq.length : Int) + (au.length : Int)) == 0)) && ay) (gy_t rfl) cf18 (B aK) (fun _ => [aF, ct]) (fun hg => lst2 (gd_of (c := ((((((((aa == 0) && (ab == 0)) && (ac == 0)) && (ae == 0)) && r9) && al) && (((aq.length : Int) + (au.length : Int)) == 0)) && ay)) hg (aF)) (gd_of (c := ((((((((aa == 0) && (ab == 0)) && (ac == 0)) && (ae == 0)) && r9) && al) && (((aq.length : Int) + (au.length : Int)) == 0)) && ay)) hg (ct))) H (fun hg => (zai b4 ([(0 : Int)]) (rdo 4) (H.os 4) (Reads.of (k := 0) rfl roLe) (fm hg) (M.e_opt fo hg) _ (H.give (A := []) rfl)).mono fun v_ w_ ⟨y_, ax, aB, H_⟩ => by subst ax; exact ⟨aB, H.via H_⟩) ?_
  intro iE H
  refine s_val (x_pand (b := ((((((((aa == 0) && (ab == 0)) && (ac == 0)) && (ae == 0)) && r9) && al) && (((aq.length : Int) + (au.length : Int)) == 0)) && ay)) (r := aK) rfl (fun hb => gd_of (c := ((((((((aa == 0) && (ab == 0)) && (ac == 0)) && (ae == 0)) && r9) && al) && (((aq.length : Int) + (au.length : Int)) == 0)) && ay)) (by first | exact hb | (rw [hb]; rfl) | simp_all) (B aK)) rfl) ?_
  refine zA (B (((((((((aa == 0) && (ab == 0)) && (ac == 0)) && (ae == 0)) && r9) && al) && (((aq.length : Int) + (au.length : Int)) == 0)) && ay) && aK)) rfl ?_
  refine s_nil ?_
  replace H := H.pk []
  refine W.ret ?_
  have ax := M.e_pure hM
  exact ⟨_, resE_tmp rfl, ⟨(((((((((aa == 0) && (ab == 0)) && (ac == 0)) && (ae == 0)) && r9) && al) && (((aq.length : Int) + (au.length : Int)) == 0)) && ay) && aK), ax, rfl, H⟩⟩
 replace hM := M.e_f hM bb
 refine s_nil ⟨(H.pk [2, 3, 4, 5, 6]), ?_⟩
 refine d_qg (!((((((((((ag != 0) || (ai != 0)) || (aj != 6)) || (ak != 0)) || (am != 0)) || (ao != 0)) || (!r7)) || (decide (0 < (av.length : Int)))) || ((aw.length : Int) != 2)) || (!r8))) rfl (gy_f rfl) (fun hg => (fun w' H => x_neS (eqT27 (⟨(az : Int), (aA : Int)⟩ : Span) (⟨(0 : Int), (0 : Int)⟩ : Span) _) gdT27 (gd_of (c := !((((((((((ag != 0) || (ai != 0)) || (aj != 6)) || (ak != 0)) || (am != 0)) || (ao != 0)) || (!r7)) || (decide (0 < (av.length : Int)))) || ((aw.length : Int) != 2)) || (!r8))) hg (.agg #[I az, I aA])) (gd_of (c := !((((((((((ag != 0) || (ai != 0)) || (aj != 6)) || (ak != 0)) || (am != 0)) || (ao != 0)) || (!r7)) || (decide (0 < (av.length : Int)))) || ((aw.length : Int) != 2)) || (!r8))) hg (.agg #[I 0, I 0])))) ?_
 refine d_q rfl (fun w' H => x_por (b := ((((((((((ag != 0) || (ai != 0)) || (aj != 6)) || (ak != 0)) || (am != 0)) || (ao != 0)) || (!r7)) || (decide (0 < (av.length : Int)))) || ((aw.length : Int) != 2)) || (!r8))) (r := !(decide ((⟨(az : Int), (aA : Int)⟩ : Span) = (⟨(0 : Int), (0 : Int)⟩ : Span)))) rfl rfl (fun hb => gd_of (c := !((((((((((ag != 0) || (ai != 0)) || (aj != 6)) || (ak != 0)) || (am != 0)) || (ao != 0)) || (!r7)) || (decide (0 < (av.length : Int)))) || ((aw.length : Int) != 2)) || (!r8))) (by first | exact hb | (rw [hb]; rfl) | simp_all) (B (!(decide ((⟨(az : Int), (aA : Int)⟩ : Span) = (⟨(0 : Int), (0 : Int)⟩ : Span))))))) ?_
 refine d_nil ?_
 replace H := H.pk []
 refine W.cond (((((((((((ag != 0) || (ai != 0)) || (aj != 6)) || (ak != 0)) || (am != 0)) || (ao != 0)) || (!r7)) || (decide (0 < (av.length : Int)))) || ((aw.length : Int) != 2)) || (!r8)) || (!(decide ((⟨(az : Int), (aA : Int)⟩ : Span) = (⟨(0 : Int), (0 : Int)⟩ : Span))))) rfl (fun b5 => ?_) (fun b5 => ?_)
 ·replace hM := M.e_t hM b5
  refine W.seq ?_
  refine W.region rfl ?_
  refine zA (B false) rfl ?_
  refine s_nil ?_
  refine W.ret ?_
  have ax := M.e_pure hM
  exact ⟨_, resE_tmp rfl, ⟨false, ax, rfl, H⟩⟩
 replace hM := M.e_f hM b5
 refine W.skip ?_
 refine W.seq ?_
 refine W.region rfl ?_
 obtain ⟨iF, fp, hM⟩ := M.e_bind hM
 refine s_call cf42 [I 1] rfl (zag 1 fp _ (H.gt 0)) ?_
 rintro vq iG ⟨bf, bg, bh, bi, aS, aT, bj, bm, bn, bo, bp, bq, ej, em, fq, hvq, ah, fu⟩
 subst fq
 subst vq
 try dsimp only at hM
 replace H := H.bk ah
 clear ah
 refine t_bs (α := Int) T23 [I 2] [(2 : Int)] H rfl (.cons rfl (Flat.rep_enc _ (2 : Int)) <| .nil) rfl rfl rfl ?_
 intro fv iH H
 obtain ⟨iI, fw, hM⟩ := M.e_bind hM
 refine s_call cf11 [.agg #[bm, bn, bo, bp, I aS, I aT, bq], fv] rfl (zcL bf bg bh bi aS aT bj ([(2 : Int)]) (rdo 1) (H.os 1) (rdo 2) (H.os 2) (rdo 3) (H.os 3) (rdo 4) (H.os 4) (Reads.sup (rdo 5) (Reads.of (k := 6) rfl roLe)) (rowSl rfl (H.get (k := 5) rfl) (roLe _ (H.get (k := 6) rfl)) fu) (rdo 0) (H.os 0) fw _ (H.gt 7)) ?_
 rintro vq iJ ⟨br, bt, aa, aC, aD, fx, hvq, ah⟩
 subst fx
 subst vq
 try dsimp only at hM
 replace H := H.bk ah
 clear ah
 refine zM (.tuple #[aC, aD, I aa]) rfl ?_
 refine zX [aC, aD, I aa] aC rfl rfl ?_
 refine zX [aC, aD, I aa] aD rfl rfl ?_
 refine zX [aC, aD, I aa] (I aa) rfl rfl ?_
 refine zA aC rfl ?_
 refine zA aD rfl ?_
 refine zA (I aa) rfl ?_
 refine s_nil ?_
 replace H := H.pk [0, 1]
 refine W.seq ?_
 refine W.region rfl ?_
 obtain ⟨iK, fy, hM⟩ := M.e_bind hM
 refine s_call cf42 [I 1] rfl (zag 1 fy _ (H.gt 2)) ?_
 rintro vq iL ⟨bu, bv, bw, bx, aU, aV, bz, bA, bB, bC, bD, bE, ez, eA, fA, hvq, ah, fB⟩
 subst fA
 subst vq
 try dsimp only at hM
 replace H := H.bk ah
 clear ah
 refine t_bs (α := Int) T23 [I 2] [(2 : Int)] H rfl (.cons rfl (Flat.rep_enc _ (2 : Int)) <| .nil) rfl rfl rfl ?_
 intro fC iM H
 refine t_bs (α := Int) T23 [I 250] [(250 : Int)] H rfl (.cons rfl (Flat.rep_enc _ (250 : Int)) <| .nil) rfl rfl rfl ?_
 intro fD iN H
 obtain ⟨iO, fE, hM⟩ := M.e_bind hM
 refine s_call cf12 [.agg #[bA, bB, bC, bD, I aU, I aV, bE], fC, fD] rfl (zaZ bu bv bw bx aU aV bz ([(2 : Int)]) ([(250 : Int)]) (rdo 2) (H.os 2) (rdo 3) (H.os 3) (rdo 4) (H.os 4) (rdo 5) (H.os 5) (Reads.sup (rdo 6) (Reads.of (k := 7) rfl roLe)) (rowSl rfl (H.get (k := 6) rfl) (roLe _ (H.get (k := 7) rfl)) fB) (rdo 1) (H.os 1) (rdo 0) (H.os 0) fE _ (H.gt 10)) ?_
 rintro vq iP ⟨aq, au, ab, aG, aH, fF, hvq, ah⟩
 subst fF
 subst vq
 try dsimp only at hM
 replace H := H.bk ah
 clear ah
 refine zM (.tuple #[aG, aH, I ab]) rfl ?_
 refine zX [aG, aH, I ab] aG rfl rfl ?_
 refine zX [aG, aH, I ab] aH rfl rfl ?_
 refine zX [aG, aH, I ab] (I ab) rfl rfl ?_
 refine zA aG rfl ?_
 refine zA aH rfl ?_
 refine zA (I ab) rfl ?_
 refine s_nil ?_
 replace H := H.pk [0, 1, 10, 11]
 refine W.seq ?_
 refine W.region rfl ?_
 obtain ⟨iQ, fG, hM⟩ := M.e_bind hM
 refine s_call cf42 [I 1] rfl (zag 1 fG _ (H.gt 4)) ?_
 rintro vq iR ⟨bF, bG, bH, bI, aW, aX, bJ, bK, bL, bM, bN, bO, eI, eJ, fH, hvq, ah, fI⟩
 subst fH
 subst vq
 try dsimp only at hM
 replace H := H.bk ah
 clear ah
 refine t_bs (α := Int) T23 [I 2] [(2 : Int)] H rfl (.cons rfl (Flat.rep_enc _ (2 : Int)) <| .nil) rfl rfl rfl ?_
 intro fJ iS H
 refine t_bs (α := Int) T23 [I 240] [(240 : Int)] H rfl (.cons rfl (Flat.rep_enc _ (240 : Int)) <| .nil) rfl rfl rfl ?_
 intro fK iT H
 obtain ⟨iU, fL, hM⟩ := M.e_bind hM
 refine s_call cf12 [.agg #[bK, bL, bM, bN, I aW, I aX, bO], fJ, fK] rfl (zaZ bF bG bH bI aW aX bJ ([(2 : Int)]) ([(240 : Int)]) (rdo 2) (H.os 2) (rdo 3) (H.os 3) (rdo 4) (H.os 4) (rdo 5) (H.os 5) (Reads.sup (rdo 6) (Reads.of (k := 7) rfl roLe)) (rowSl rfl (H.get (k := 6) rfl) (roLe _ (H.get (k := 7) rfl)) fI) (rdo 1) (H.os 1) (rdo 0) (H.os 0) fL _ (H.gt 12)) ?_
 rintro vq iV ⟨eP, bP, ac, aI, aE, fM, hvq, ah⟩
 subst fM
 subst vq
 try dsimp only at hM
 replace H := H.bk ah
 clear ah
 refine zM (.tuple #[aI, aE, I ac]) rfl ?_
 refine zX [aI, aE, I ac] aI rfl rfl ?_
 refine zX [aI, aE, I ac] aE rfl rfl ?_
 refine zX [aI, aE, I ac] (I ac) rfl rfl ?_
 refine zA aI rfl ?_
 refine zA aE rfl ?_
 refine zA (I ac) rfl ?_
 refine s_nil ?_
 replace H := H.pk [1, 10, 11, 12, 13]
 refine W.seq ?_
 refine W.region rfl ?_
 obtain ⟨iW, fN, hM⟩ := M.e_bind hM
 refine s_call cf42 [I 1] rfl (zag 1 fN _ (H.gt 5)) ?_
 rintro vq iX ⟨bQ, bR, bS, bT, aY, aZ, bU, bV, bW, bX, bY, bZ, eS, eT, fO, hvq, ah, fP⟩
 subst fO
 subst vq
 try dsimp only at hM
 replace H := H.bk ah
 clear ah
 refine t_bs (α := Int) T23 [I 2] [(2 : Int)] H rfl (.cons rfl (Flat.rep_enc _ (2 : Int)) <| .nil) rfl rfl rfl ?_
 intro fQ iY H
 refine t_bs (α := Int) T23 [I 251] [(251 : Int)] H rfl (.cons rfl (Flat.rep_enc _ (251 : Int)) <| .nil) rfl rfl rfl ?_
 intro fR iZ H
 obtain ⟨i5, fS, hM⟩ := M.e_bind hM
 refine s_call cf12 [.agg #[bV, bW, bX, bY, I aY, I aZ, bZ], fQ, fR] rfl (zaZ bQ bR bS bT aY aZ bU ([(2 : Int)]) ([(251 : Int)]) (rdo 2) (H.os 2) (rdo 3) (H.os 3) (rdo 4) (H.os 4) (rdo 5) (H.os 5) (Reads.sup (rdo 6) (Reads.of (k := 7) rfl roLe)) (rowSl rfl (H.get (k := 6) rfl) (roLe _ (H.get (k := 7) rfl)) fP) (rdo 1) (H.os 1) (rdo 0) (H.os 0) fS _ (H.gt 13)) ?_
 rintro vq i6 ⟨b4, eZ, ae, aF, aJ, fT, hvq, ah⟩
 subst fT
 subst vq
 try dsimp only at hM
 replace H := H.bk ah
 clear ah
 refine zM (.tuple #[aF, aJ, I ae]) rfl ?_
 refine zX [aF, aJ, I ae] aF rfl rfl ?_
 refine zX [aF, aJ, I ae] aJ rfl rfl ?_
 refine zX [aF, aJ, I ae] (I ae) rfl rfl ?_
 refine zA aF rfl ?_
 refine zA aJ rfl ?_
 refine zA (I ae) rfl ?_
 refine s_nil ?_
 replace H := H.pk [0, 10, 11, 12, 13, 14]
 refine W.seq ?_
 refine W.region rfl ?_
 refine zM (I aa) rfl ?_
 refine zC aa 0 (aa == 0) rfl rfl rfl ?_
 refine zM (B (aa == 0)) rfl ?_
 refine g_val (aa == 0) (gy_t rfl) (fun hg => x_mv (v := I ab) rfl) ?_
 refine g_val (aa == 0) (gy_t rfl) (fun hg => x_cmp (kd := .i64) (a := ab) (b := 0) (r := ab == 0) (gd_of (c := aa == 0) hg (I ab)) rfl rfl) ?_
 refine s_val (x_pand (b := aa == 0) (r := ab == 0) rfl (fun hb => gd_of (c := aa == 0) (by first | exact hb | (rw [hb]; rfl) | simp_all) (B (ab == 0))) rfl) ?_
 refine zM (B ((aa == 0) && (ab == 0))) rfl ?_
 refine g_val ((aa == 0) && (ab == 0)) (gy_t rfl) (fun hg => x_mv (v := I ac) rfl) ?_
 refine g_val ((aa == 0) && (ab == 0)) (gy_t rfl) (fun hg => x_cmp (kd := .i64) (a := ac) (b := 0) (r := ac == 0) (gd_of (c := ((aa == 0) && (ab == 0))) hg (I ac)) rfl rfl) ?_
 refine s_val (x_pand (b := ((aa == 0) && (ab == 0))) (r := ac == 0) rfl (fun hb => gd_of (c := ((aa == 0) && (ab == 0))) (by first | exact hb | (rw [hb]; rfl) | simp_all) (B (ac == 0))) rfl) ?_
 refine zM (B (((aa == 0) && (ab == 0)) && (ac == 0))) rfl ?_
 refine g_val (((aa == 0) && (ab == 0)) && (ac == 0)) (gy_t rfl) (fun hg => x_mv (v := I ae) rfl) ?_
 refine g_val (((aa == 0) && (ab == 0)) && (ac == 0)) (gy_t rfl) (fun hg => x_cmp (kd := .i64) (a := ae) (b := 0) (r := ae == 0) (gd_of (c := (((aa == 0) && (ab == 0)) && (ac == 0))) hg (I ae)) rfl rfl) ?_
 refine s_val (x_pand (b := (((aa == 0) && (ab == 0)) && (ac == 0))) (r := ae == 0) rfl (fun hb => gd_of (c := (((aa == 0) && (ab == 0)) && (ac == 0))) (by first | exact hb | (rw [hb]; rfl) | simp_all) (B (ae == 0))) rfl) ?_
 refine zM (B ((((aa == 0) && (ab == 0)) && (ac == 0)) && (ae == 0))) rfl ?_
 refine g_val ((((aa == 0) && (ab == 0)) && (ac == 0)) && (ae == 0)) (gy_t rfl) (fun hg => x_mv (v := aC) rfl) ?_
 refine t_gbs (α := Int) T23 ((((aa == 0) && (ab == 0)) && (ac == 0)) && (ae == 0)) (gy_t rfl) [I 250] [(250 : Int)] H (fun _ => rfl) (.cons rfl (Flat.rep_enc _ (250 : Int)) <| .nil) rfl rfl rfl ?_
 intro cu e9 i7 H fU
 obtain ⟨r9, fV, hM⟩ := M.e_bind hM
 refine t_gcall ((((aa == 0) && (ab == 0)) && (ac == 0)) && (ae == 0)) (gy_t rfl) cf18 (B r9) (fun _ => [aC, cu]) (fun hg => lst2 (gd_of (c := ((((aa == 0) && (ab == 0)) && (ac == 0)) && (ae == 0))) hg (aC)) (gd_of (c := ((((aa == 0) && (ab == 0)) && (ac == 0)) && (ae == 0))) hg (cu))) H (fun hg => (zai br ([(250 : Int)]) (rdo 5) (H.os 5) (Reads.of (k := 0) rfl roLe) (fU hg) (M.e_opt fV hg) _ (H.give (A := []) rfl)).mono fun v_ w_ ⟨y_, ax, aB, H_⟩ => by subst ax; exact ⟨aB, H.via H_⟩) ?_
 intro i8 H
 refine s_val (x_pand (b := ((((aa == 0) && (ab == 0)) && (ac == 0)) && (ae == 0))) (r := r9) rfl (fun hb => gd_of (c := ((((aa == 0) && (ab == 0)) && (ac == 0)) && (ae == 0))) (by first | exact hb | (rw [hb]; rfl) | simp_all) (B r9)) rfl) ?_
 refine zM (B (((((aa == 0) && (ab == 0)) && (ac == 0)) && (ae == 0)) && r9)) rfl ?_
 refine g_val (((((aa == 0) && (ab == 0)) && (ac == 0)) && (ae == 0)) && r9) (gy_t rfl) (fun hg => x_mv (v := aD) rfl) ?_
 refine t_gbs (α := Int) T23 (((((aa == 0) && (ab == 0)) && (ac == 0)) && (ae == 0)) && r9) (gy_t rfl) [I 0] [(0 : Int)] H (fun _ => rfl) (.cons rfl (Flat.rep_enc _ (0 : Int)) <| .nil) rfl rfl rfl ?_
 intro cw fd i9 H fW
 obtain ⟨al, fX, hM⟩ := M.e_bind hM
 refine t_gcall (((((aa == 0) && (ab == 0)) && (ac == 0)) && (ae == 0)) && r9) (gy_t rfl) cf18 (B al) (fun _ => [aD, cw]) (fun hg => lst2 (gd_of (c := (((((aa == 0) && (ab == 0)) && (ac == 0)) && (ae == 0)) && r9)) hg (aD)) (gd_of (c := (((((aa == 0) && (ab == 0)) && (ac == 0)) && (ae == 0)) && r9)) hg (cw))) H (fun hg => (zai bt ([(0 : Int)]) (rdo 7) (H.os 7) (Reads.of (k := 0) rfl roLe) (fW hg) (M.e_opt fX hg) _ (H.give (A := []) rfl)).mono fun v_ w_ ⟨y_, ax, aB, H_⟩ => by subst ax; exact ⟨aB, H.via H_⟩) ?_
 intro ja H
 refine s_val (x_pand (b := (((((aa == 0) && (ab == 0)) && (ac == 0)) && (ae == 0)) && r9)) (r := al) rfl (fun hb => gd_of (c := (((((aa == 0) && (ab == 0)) && (ac == 0)) && (ae == 0)) && r9)) (by first | exact hb | (rw [hb]; rfl) | simp_all) (B al)) rfl) ?_
 refine zM (B ((((((aa == 0) && (ab == 0)) && (ac == 0)) && (ae == 0)) && r9) && al)) rfl ?_
 refine g_val ((((((aa == 0) && (ab == 0)) && (ac == 0)) && (ae == 0)) && r9) && al) (gy_t rfl) (fun hg => x_mv (v := aG) rfl) ?_
 refine g_val ((((((aa == 0) && (ab == 0)) && (ac == 0)) && (ae == 0)) && r9) && al) (gy_t rfl) (fun hg => x_lenS T23.und (gd_of (c := ((((((aa == 0) && (ab == 0)) && (ac == 0)) && (ae == 0)) && r9) && al)) hg (aG)) (H.os 4)) ?_
 refine g_val ((((((aa == 0) && (ab == 0)) && (ac == 0)) && (ae == 0)) && r9) && al) (gy_t rfl) (fun hg => x_mv (v := aH) rfl) ?_
 refine g_val ((((((aa == 0) && (ab == 0)) && (ac == 0)) && (ae == 0)) && r9) && al) (gy_t rfl) (fun hg => x_lenS T23.und (gd_of (c := ((((((aa == 0) && (ab == 0)) && (ac == 0)) && (ae == 0)) && r9) && al)) hg (aH)) (H.os 5)) ?_
 obtain ⟨ba, hM⟩ := M.e_grd hM
 replace ba := M.imp_of ba
 simp only [Bool.and_eq_true, decide_eq_true_eq] at ba
 refine g_val ((((((aa == 0) && (ab == 0)) && (ac == 0)) && (ae == 0)) && r9) && al) (gy_t rfl) (fun hg => x_ari (a := (aq.length : Int)) (b := (au.length : Int)) (r := (aq.length : Int) + (au.length : Int)) (gd_of (c := ((((((aa == 0) && (ab == 0)) && (ac == 0)) && (ae == 0)) && r9) && al)) hg (I (aq.length : Int))) (gd_of (c := ((((((aa == 0) && (ab == 0)) && (ac == 0)) && (ae == 0)) && r9) && al)) hg (I (au.length : Int))) rfl (by have aP := ba.resolve_left (by rw [hg]; decide); first | exact aP | exact aP.1 | exact aP.2 | omega | (have aQ := hg; simp at aQ; omega))) ?_
 refine g_val ((((((aa == 0) && (ab == 0)) && (ac == 0)) && (ae == 0)) && r9) && al) (gy_t rfl) (fun hg => x_cmp (kd := .i64) (a := (aq.length : Int) + (au.length : Int)) (b := 0) (r := ((aq.length : Int) + (au.length : Int)) == 0) (gd_of (c := ((((((aa == 0) && (ab == 0)) && (ac == 0)) && (ae == 0)) && r9) && al)) hg (I ((aq.length : Int) + (au.length : Int)))) rfl rfl) ?_
 refine s_val (x_pand (b := ((((((aa == 0) && (ab == 0)) && (ac == 0)) && (ae == 0)) && r9) && al)) (r := ((aq.length : Int) + (au.length : Int)) == 0) rfl (fun hb => gd_of (c := ((((((aa == 0) && (ab == 0)) && (ac == 0)) && (ae == 0)) && r9) && al)) (by first | exact hb | (rw [hb]; rfl) | simp_all) (B (((aq.length : Int) + (au.length : Int)) == 0))) rfl) ?_
 refine zM (B (((((((aa == 0) && (ab == 0)) && (ac == 0)) && (ae == 0)) && r9) && al) && (((aq.length : Int) + (au.length : Int)) == 0))) rfl ?_
 refine g_val (((((((aa == 0) && (ab == 0)) && (ac == 0)) && (ae == 0)) && r9) && al) && (((aq.length : Int) + (au.length : Int)) == 0)) (gy_t rfl) (fun hg => x_mv (v := aE) rfl) ?_
 refine t_gbs (α := Int) T23 (((((((aa == 0) && (ab == 0)) && (ac == 0)) && (ae == 0)) && r9) && al) && (((aq.length : Int) + (au.length : Int)) == 0)) (gy_t rfl) [I 1] [(1 : Int)] H (fun _ => rfl) (.cons rfl (Flat.rep_enc _ (1 : Int)) <| .nil) rfl rfl rfl ?_
 intro cx fh jb H fY
 obtain ⟨ay, fZ, hM⟩ := M.e_bind hM
 refine t_gcall (((((((aa == 0) && (ab == 0)) && (ac == 0)) && (ae == 0)) && r9) && al) && (((aq.length : Int) + (au.length : Int)) == 0)) (gy_t rfl) cf18 (B ay) (fun _ => [aE, cx]) (fun hg => lst2 (gd_of (c := (((((((aa == 0) && (ab == 0)) && (ac == 0)) && (ae == 0)) && r9) && al) && (((aq.length : Int) + (au.length : Int)) == 0))) hg (aE)) (gd_of (c := (((((((aa == 0) && (ab == 0)) && (ac == 0)) && (ae == 0)) && r9) && al) && (((aq.length : Int) + (au.length : Int)) == 0))) hg (cx))) H (fun hg => (zai bP ([(1 : Int)]) (rdo 4) (H.os 4) (Reads.of (k := 0) rfl roLe) (fY hg) (M.e_opt fZ hg) _ (H.give (A := []) rfl)).mono fun v_ w_ ⟨y_, ax, aB, H_⟩ => by subst ax; exact ⟨aB, H.via H_⟩) ?_
 intro jc H
 refine s_val (x_pand (b := (((((((aa == 0) && (ab == 0)) && (ac == 0)) && (ae == 0)) && r9) && al) && (((aq.length : Int) + (au.length : Int)) == 0))) (r := ay) rfl (fun hb => gd_of (c := (((((((aa == 0) && (ab == 0)) && (ac == 0)) && (ae == 0)) && r9) && al) && (((aq.length : Int) + (au.length : Int)) == 0))) (by first | exact hb | (rw [hb]; rfl) | simp_all) (B ay)) rfl) ?_
 refine zM (B ((((((((aa == 0) && (ab == 0)) && (ac == 0)) && (ae == 0)) && r9) && al) && (((aq.length : Int) + (au.length : Int)) == 0)) && ay)) rfl ?_
 refine g_val ((((((((aa == 0) && (ab == 0)) && (ac == 0)) && (ae == 0)) && r9) && al) && (((aq.length : Int) + (au.length : Int)) == 0)) && ay) (gy_t rfl) (fun hg => x_mv (v := aF) rfl) ?_
 refine t_gbs (α := Int) T23 ((((((((aa == 0) && (ab == 0)) && (ac == 0)) && (ae == 0)) && r9) && al) && (((aq.length : Int) + (au.length : Int)) == 0)) && ay) (gy_t rfl) [I 0] [(0 : Int)] H (fun _ => rfl) (.cons rfl (Flat.rep_enc _ (0 : Int)) <| .nil) rfl rfl rfl ?_
 intro cy fk jd H f0
 obtain ⟨aK, f3, hM⟩ := M.e_bind hM
 refine t_gcall ((((((((aa == 0) && (ab == 0)) && (ac == 0)) && (ae == 0)) && r9) && al) && (((aq.length : Int) + (au.length : Int)) == 0)) && ay) (gy_t rfl) cf18 (B aK) (fun _ => [aF, cy]) (fun hg => lst2 (gd_of (c := ((((((((aa == 0) && (ab == 0)) && (ac == 0)) && (ae == 0)) && r9) && al) && (((aq.length : Int) + (au.length : Int)) == 0)) && ay)) hg (aF)) (gd_of (c := ((((((((aa == 0) && (ab == 0)) && (ac == 0)) && (ae == 0)) && r9) && al) && (((aq.length : Int) + (au.length : Int)) == 0)) && ay)) hg (cy))) H (fun hg => (zai b4 ([(0 : Int)]) (rdo 4) (H.os 4) (Reads.of (k := 0) rfl roLe) (f0 hg) (M.e_opt f3 hg) _ (H.give (A := []) rfl)).mono fun v_ w_ ⟨y_, ax, aB, H_⟩ => by subst ax; exact ⟨aB, H.via H_⟩) ?_
 intro je H
 refine s_val (x_pand (b := ((((((((aa == 0) && (ab == 0)) && (ac == 0)) && (ae == 0)) && r9) && al) && (((aq.length : Int) + (au.length : Int)) == 0)) && ay)) (r := aK) rfl (fun hb => gd_of (c := ((((((((aa == 0) && (ab == 0)) && (ac == 0)) && (ae == 0)) && r9) && al) && (((aq.length : Int) + (au.length : Int)) == 0)) && ay)) (by first | exact hb | (rw [hb]; rfl) | simp_all) (B aK)) rfl) ?_
 refine zA (B (((((((((aa == 0) && (ab == 0)) && (ac == 0)) && (ae == 0)) && r9) && al) && (((aq.length : Int) + (au.length : Int)) == 0)) && ay) && aK)) rfl ?_
 refine s_nil ?_
 replace H := H.pk []
 refine W.ret ?_
 have ax := M.e_pure hM
 exact ⟨_, resE_tmp rfl, ⟨(((((((((aa == 0) && (ab == 0)) && (ac == 0)) && (ae == 0)) && r9) && al) && (((aq.length : Int) + (au.length : Int)) == 0)) && ay) && aK), ax, rfl, H⟩⟩

end Go.Proofs.Ytbaehghammbjdaa
end
namespace Go.Proofs.Ytbaehghammbjdaa
open Go Go.Nm
end Go.Proofs.Ytbaehghammbjdaa
namespace Go.Proofs.Ytbaehghammbjdaa
open Go Go.Nm
variable {dn : List Int} {tr : List Span} {sp : List Int} {tw : List Town} {dl dh : Int} {fl : List Flood} {dp : Dem -> Int} {ok : Dem -> Prop}
theorem G_ok {l : List Dem} (h : ∀ d ∈ l, ok d) {k : Int} (h0 : 0 <= k) (h1 : k < l.length) : ok (G l k) := by
  unfold G
  rw [getD_el l (by omega)]
  exact h _ (List.getElem_mem _)
theorem swap_out {l : List Dem} {a b n : Int} (h0 : 0 <= a) (hn : 0 <= n) (h1 : a + n <= b) (h2 : b + n <= l.length) (h3 : l.length <= 1000) :
    (zaV l a b n dn tr sp tw dl dh fl dn tr sp tw dl dh fl).Out (fun l' => Mv l l' a (b + n) /\ ∀ k, 0 <= k -> G l' k = sx (G l) a b n k) := by
  unfold zaV
  refine M.o_bind (P := fun l' => Mv l l' a (b + n) /\ ∀ k, 0 <= k -> G l' k = sx (G l) a b n k) ?_ (fun y hy => M.o_pure hy)
  refine M.o_for (Int.toNat n) (fun i (t : List Dem × Nat) => t.2 = i /\ Mv l t.1 a (b + n) /\ ∀ k, 0 <= k -> G t.1 k = sx (G l) a b i k) ?_ ?_ ⟨rfl, Mv.refl _ _ _, fun k _ => by dsimp only; rw [show ((0 : Nat) : Int) = 0 from rfl, sx_zero]⟩
  · rintro _ ⟨q, i⟩ hi ⟨rfl, hm, hg⟩
    dsimp only at hi hm hg
    have ln := hm.ln
    simp only [zbs]
    refine M.o_t (decide_eq_true (by omega)) (M.o_grd (gA2 (by omega) (by omega)) (M.o_grd (gA2 (by omega) (by omega)) (M.o_grd (gA2 (by omega) (by omega)) (M.o_grd (gA2 (by omega) (by omega)) (M.o_grd (gA2 (by omega) (by rw [List.length_set]; omega)) (M.o_grd (gA2 (by omega) (by omega)) (M.o_pure ⟨rfl, hm.trans (sw_mv (i := a + i) (j := b + i) h0 (by omega) (by omega) (by omega)), fun k hk => ?_⟩)))))))
    have e := sw_G (l := q) (i := a + i) (j := b + i) (by omega) (by omega) hk
    exact e.trans (sx_step (by omega) (by omega) h1 (hg k hk) (hg _ (by omega)) (hg _ (by omega)))
  · rintro ⟨q, i⟩ ⟨e, hm, hg⟩
    dsimp only at e hm hg
    subst e
    simp only [zbs]
    refine M.o_f (decide_eq_false (by omega)) (M.o_pure ⟨hm, fun k hk => ?_⟩)
    have := hg k hk
    rwa [Int.toNat_of_nonneg hn] at this
theorem rotate_out {l : List Dem} {s m e : Int} (h0 : 0 <= s) (h1 : s < m) (h2 : m < e) (h3 : e <= l.length) (h4 : l.length <= 1000) :
    (zb1 l s m e dn tr sp tw dl dh fl dn tr sp tw dl dh fl).Out (fun l' => Mv l l' s e /\ ∀ k, 0 <= k -> G l' k = rot (G l) s m e k) := by
  unfold zb1
  refine M.o_grd (gA2 (by omega) (by omega)) (M.o_grd (gA2 (by omega) (by omega)) ?_)
  refine M.o_bind (P := fun y => (0 < y.2.1 /\ y.2.1 <= m - s /\ y.2.1 <= e - m) /\ Mv l y.2.2 s e /\ ∀ k, 0 <= k -> rot (G y.2.2) (m - y.2.1) m (m + y.2.1) k = rot (G l) s m e k) ?_ ?_
  · refine M.o_iter (fun (w : Nat) (t : List Dem × Int × Int) => w = Int.toNat (t.2.1 + t.2.2) /\ (0 < t.2.1 /\ t.2.1 <= m - s) /\ (0 < t.2.2 /\ t.2.2 <= e - m) /\ Mv l t.1 s e /\ ∀ k, 0 <= k -> rot (G t.1) (m - t.2.1) m (m + t.2.2) k = rot (G l) s m e k) ?_ _ _ ⟨rfl, ⟨by dsimp only; omega, by dsimp only; omega⟩, ⟨by dsimp only; omega, by dsimp only; omega⟩, Mv.refl _ _ _, fun k _ => by dsimp only; rw [show m - (m - s) = s by omega, show m + (e - m) = e by omega]⟩
    rintro _ ⟨q, i, j⟩ ⟨rfl, ⟨i0, i1⟩, ⟨j0, j1⟩, hm, hr⟩
    dsimp only at i0 i1 j0 j1 hm hr
    have ln := hm.ln
    simp only [zcc]
    refine M.o_if (fun hb => M.o_if (fun hc => ?_) (fun hc => ?_)) (fun hb => M.o_pure ⟨⟨by dsimp only; omega, by dsimp only; omega, ?_⟩, hm, fun k hk => ?_⟩)
    · have hc := of_decide_eq_true hc
      refine M.o_grd (gA2 (by omega) (by omega)) (M.o_bind (swap_out (by omega) (by omega) (by omega) (by omega) (by omega)) ?_)
      rintro q' ⟨hm', hg'⟩
      refine M.o_grd (gA2 (by omega) (by omega)) (M.o_pure ⟨Int.toNat ((i - j) + j), by omega, rfl, ⟨by dsimp only; omega, by dsimp only; omega⟩, ⟨j0, j1⟩, hm.trans (hm'.mono h0 (by omega) (by omega)), fun k hk => ?_⟩)
      dsimp only
      rw [rot_congr hg' (by omega) (by omega) (by omega) hk, rot_l (by omega) (by omega)]
      exact hr k hk
    · have hb := bne_iff_ne.1 hb
      have hc := of_decide_eq_false hc
      refine M.o_grd (gA2 (by omega) (by omega)) (M.o_grd (gA2 (by omega) (by omega)) (M.o_grd (gA2 (by omega) (by omega)) (M.o_bind (swap_out (by omega) (by omega) (by omega) (by omega) (by omega)) ?_)))
      rintro q' ⟨hm', hg'⟩
      refine M.o_grd (gA2 (by omega) (by omega)) (M.o_pure ⟨Int.toNat (i + (j - i)), by omega, rfl, ⟨i0, i1⟩, ⟨by dsimp only; omega, by dsimp only; omega⟩, hm.trans (hm'.mono h0 (by omega) (by omega)), fun k hk => ?_⟩)
      dsimp only
      rw [rot_congr hg' (by omega) (by omega) (by omega) hk, rot_r (by omega) (by omega)]
      exact hr k hk
    · have hb : i = j := by simpa using hb
      dsimp only
      omega
    · have hb : i = j := by simpa using hb
      have := hr k hk
      rw [← hb] at this
      exact this
  · rintro ⟨_, i, q⟩ ⟨⟨i0, i1, i2⟩, hm, hr⟩
    dsimp only at i0 i1 i2 hm hr ⊢
    have ln := hm.ln
    refine M.o_grd (gA2 (by omega) (by omega)) (M.o_bind (swap_out (by omega) (by omega) (by omega) (by omega) (by omega)) ?_)
    rintro q' ⟨hm', hg'⟩
    refine M.o_pure ⟨hm.trans (hm'.mono h0 (by omega) (by omega)), fun k hk => ?_⟩
    rw [hg' k hk, rot_e]
    exact hr k hk
section
variable (hc : ∀ x y, ok x -> ok y -> (zar x y dn tr sp tw dl dh fl dn tr sp tw dl dh fl).Ends (cv (dp y) (dp x)))
include hc
theorem insert_out {l : List Dem} {a b : Int} (h0 : 0 <= a) (h1 : a <= b) (h2 : b <= l.length) (h3 : l.length <= 1000) (ho : ∀ d ∈ l, ok d) :
    (zbm l a b dn tr sp tw dl dh fl dn tr sp tw dl dh fl).Out (fun l' => Mv l l' a b /\ Srt dp l' a b) := by
  unfold zbm
  refine M.o_grd (gA2 (by omega) (by omega)) (M.o_bind (P := fun l' => Mv l l' a b /\ Srt dp l' a b) ?_ (fun y hy => M.o_pure hy))
  by_cases hab : a = b
  · refine M.o_iter (fun (w : Nat) (t : List Dem × Int) => t = (l, a + 1)) ?_ 0 _ rfl
    rintro w _ rfl
    simp only [za1]
    exact M.o_f (decide_eq_false (by omega)) (M.o_pure ⟨Mv.refl _ _ _, fun i j g1 g2 g3 => by omega⟩)
  refine M.o_for (Int.toNat (b - a - 1)) (fun n (t : List Dem × Int) => t.2 = a + 1 + n /\ Mv l t.1 a b /\ Srt dp t.1 a t.2) ?_ ?_ ⟨by dsimp only; omega, Mv.refl _ _ _, fun i j g1 g2 g3 => by dsimp only at g3; omega⟩
  · rintro n ⟨q, i⟩ hn ⟨e, hm, hs⟩
    dsimp only at e hm hs
    have ln := hm.ln
    simp only [za1]
    refine M.o_t (decide_eq_true (by omega)) (M.o_bind (P := fun y => Mv q y.2 a (i + 1) /\ Srt dp y.2 a (i + 1)) ?_ ?_)
    · refine M.o_iter (fun (w : Nat) (t : List Dem × Int) => w = Int.toNat (t.2 - a) /\ (a <= t.2 /\ t.2 <= i) /\ Mv q t.1 a (i + 1) /\ ∀ x y, a <= x -> x < y -> y <= i -> y ≠ t.2 -> dp (G t.1 y) <= dp (G t.1 x)) ?_ _ _ ⟨rfl, ⟨by dsimp only; omega, Int.le_refl _⟩, Mv.refl _ _ _, fun x y g1 g2 g3 g4 => hs x y g1 g2 (by dsimp only at g4; omega)⟩
      rintro _ ⟨r, j⟩ ⟨rfl, ⟨j0, j1⟩, km, kp⟩
      dsimp only at j0 j1 km kp
      have kn := km.ln
      have ho' : ∀ d ∈ r, ok d := fun d hd => ho d (hm.pm.mem_iff.1 (km.pm.mem_iff.1 hd))
      simp only [zbU]
      refine M.o_grd (gI2 fun h => by have := of_decide_eq_true h; omega) (M.o_grd (gI2 fun h => by have := of_decide_eq_true h; omega) (M.o_grd (gI2 fun h => by have := of_decide_eq_true h; omega) (M.o_if (fun hb => ?_) (fun hb => ?_))))
      · have hj := of_decide_eq_true hb
        have h5 := hc (G r j) (G r (j - 1)) (G_ok ho' (by omega) (by omega)) (G_ok ho' (by omega) (by omega))
        refine M.o_bindE h5 ?_
        rw [cv_neg, hb, Bool.true_and]
        refine M.o_if (fun hl => ?_) (fun hl => M.o_pure ?_)
        · have hl := of_decide_eq_true hl
          refine M.o_grd (gA2 (by omega) (by omega)) (M.o_grd (gA2 (by omega) (by omega)) (M.o_grd (gA2 (by omega) (by omega)) (M.o_grd (gA2 (by omega) (by rw [List.length_set]; omega)) (M.o_pure ⟨Int.toNat ((j - 1) - a), by omega, rfl, ⟨by dsimp only; omega, by dsimp only; omega⟩, km.trans (sw_mv (i := j) (j := j - 1) h0 (by omega) (by omega) (by omega)), fun x y g1 g2 g3 g4 => ?_⟩))))
          dsimp only at g4
          have ex := sw_G (l := r) (i := j) (j := j - 1) (by omega) (by omega) (show 0 <= x by omega)
          have ey := sw_G (l := r) (i := j) (j := j - 1) (by omega) (by omega) (show 0 <= y by omega)
          show dp (G (sw r j (j - 1)) y) <= dp (G (sw r j (j - 1)) x)
          rw [ex, ey, if_neg g4]
          by_cases c1 : y = j
          · subst c1
            rw [if_pos rfl]
            by_cases c2 : x = y - 1
            · rw [if_pos c2]
              omega
            · rw [if_neg c2, if_neg (by omega)]
              exact kp x (y - 1) g1 (by omega) (by omega) (by omega)
          · rw [if_neg c1]
            by_cases c2 : x = j - 1
            · rw [if_pos c2]
              exact kp j y (by omega) (by omega) g3 c1
            · rw [if_neg c2]
              by_cases c3 : x = j
              · rw [if_pos c3]
                exact kp (j - 1) y (by omega) (by omega) g3 c1
              · rw [if_neg c3]
                exact kp x y g1 g2 g3 c1
        · have hl := of_decide_eq_false hl
          refine ⟨km, fun x y g1 g2 g3 => ?_⟩
          dsimp only
          by_cases c1 : y = j
          · subst c1
            by_cases c2 : x = y - 1
            · subst c2
              omega
            · have := kp x (y - 1) g1 (by omega) (by omega) (by omega)
              omega
          · exact kp x y g1 g2 (by omega) c1
      · have hj := of_decide_eq_false hb
        refine M.o_f (by rw [hb]; rfl) (M.o_pure ⟨km, fun x y g1 g2 g3 => kp x y g1 g2 (by omega) (by omega)⟩)
    · rintro ⟨_, r⟩ ⟨km, ks⟩
      dsimp only at km ks ⊢
      exact M.o_grd (gA2 (by omega) (by omega)) (M.o_pure ⟨by dsimp only; omega, hm.trans (km.mono h0 (Int.le_refl _) (by omega)), ks⟩)
  · rintro ⟨q, i⟩ ⟨e, hm, hs⟩
    dsimp only at e hm hs
    simp only [za1]
    exact M.o_f (decide_eq_false (by omega)) (M.o_pure ⟨hm, hs.sub (Int.le_refl _) (by omega)⟩)
theorem find0 {l : List Dem} {a m b : Int} (h0 : 0 <= a) (h1 : a < m) (h2 : m <= b) (h3 : b <= l.length) (h4 : l.length <= 1000) (ho : ∀ d ∈ l, ok d) (hs : Srt dp l m b) :
    (M.iter (za7 l a dn tr sp tw dl dh fl dn tr sp tw dl dh fl) (m, b)).Out (fun i => (m <= i /\ i <= b) /\ (∀ c, m <= c -> c < i -> dp (G l a) < dp (G l c)) /\ ∀ c, i <= c -> c < b -> dp (G l c) <= dp (G l a)) := by
  refine M.o_iter (fun (w : Nat) (t : Int × Int) => w = Int.toNat (t.2 - t.1) /\ (m <= t.1 /\ t.1 <= t.2 /\ t.2 <= b) /\ (∀ c, m <= c -> c < t.1 -> dp (G l a) < dp (G l c)) /\ ∀ c, t.2 <= c -> c < b -> dp (G l c) <= dp (G l a)) ?_ _ _ ⟨rfl, ⟨Int.le_refl _, h2, Int.le_refl _⟩, fun c g1 g2 => by dsimp only at g2; omega, fun c g1 g2 => by dsimp only at g1; omega⟩
  rintro _ ⟨i, j⟩ ⟨rfl, ⟨i0, i1, i2⟩, p1, p2⟩
  dsimp only at i0 i1 i2 p1 p2
  simp only [za7]
  refine M.o_if (fun hb => ?_) (fun hb => M.o_pure ?_)
  · have hb := of_decide_eq_true hb
    have q1 : i <= (i + j) / 2 /\ (i + j) / 2 < j := by omega
    generalize (i + j) / 2 = h at q1 ⊢
    refine M.o_grd (gA2 (by omega) (by omega)) (M.o_grd (gA2 (by omega) (by omega)) (M.o_grd (gA2 (by omega) (by omega)) (M.o_grd (gA2 (by omega) (by omega)) (M.o_grd (gA2 (by omega) (by omega)) ?_))))
    refine M.o_bindE (hc (G l h) (G l a) (G_ok ho (by omega) (by omega)) (G_ok ho (by omega) (by omega))) ?_
    rw [cv_neg]
    refine M.o_if (fun hl => M.o_pure ⟨Int.toNat (j - (h + 1)), by omega, rfl, ⟨by dsimp only; omega, by dsimp only; omega, i2⟩, fun c g1 g2 => ?_, p2⟩) (fun hl => M.o_pure ⟨Int.toNat (h - i), by omega, rfl, ⟨i0, by dsimp only; omega, by dsimp only; omega⟩, p1, fun c g1 g2 => ?_⟩)
    · have hl := of_decide_eq_true hl
      dsimp only at g2
      by_cases e : c = h
      · subst e; exact hl
      · have := hs c h g1 (by omega) (by omega)
        omega
    · have hl := of_decide_eq_false hl
      dsimp only at g1
      by_cases e : c = h
      · subst e; omega
      · have := hs h c (by omega) (by omega) g2
        omega
  · have hb := of_decide_eq_false hb
    exact ⟨⟨i0, by omega⟩, p1, fun c g1 g2 => p2 c (by omega) g2⟩
theorem find2 {l : List Dem} {a m b : Int} (h0 : 0 <= a) (h1 : a <= m) (h2 : m < b) (h3 : b <= l.length) (h4 : l.length <= 1000) (ho : ∀ d ∈ l, ok d) (hs : Srt dp l a m) :
    (M.iter (za3 l m dn tr sp tw dl dh fl dn tr sp tw dl dh fl) (a, m)).Out (fun i => (a <= i /\ i <= m) /\ (∀ c, a <= c -> c < i -> dp (G l m) <= dp (G l c)) /\ ∀ c, i <= c -> c < m -> dp (G l c) < dp (G l m)) := by
  refine M.o_iter (fun (w : Nat) (t : Int × Int) => w = Int.toNat (t.2 - t.1) /\ (a <= t.1 /\ t.1 <= t.2 /\ t.2 <= m) /\ (∀ c, a <= c -> c < t.1 -> dp (G l m) <= dp (G l c)) /\ ∀ c, t.2 <= c -> c < m -> dp (G l c) < dp (G l m)) ?_ _ _ ⟨rfl, ⟨Int.le_refl _, h1, Int.le_refl _⟩, fun c g1 g2 => by dsimp only at g2; omega, fun c g1 g2 => by dsimp only at g1; omega⟩
  rintro _ ⟨i, j⟩ ⟨rfl, ⟨i0, i1, i2⟩, p1, p2⟩
  dsimp only at i0 i1 i2 p1 p2
  simp only [za3]
  refine M.o_if (fun hb => ?_) (fun hb => M.o_pure ?_)
  · have hb := of_decide_eq_true hb
    have q1 : i <= (i + j) / 2 /\ (i + j) / 2 < j := by omega
    generalize (i + j) / 2 = h at q1 ⊢
    refine M.o_grd (gA2 (by omega) (by omega)) (M.o_grd (gA2 (by omega) (by omega)) (M.o_grd (gA2 (by omega) (by omega)) (M.o_grd (gA2 (by omega) (by omega)) (M.o_grd (gA2 (by omega) (by omega)) ?_))))
    refine M.o_bindE (hc (G l m) (G l h) (G_ok ho (by omega) (by omega)) (G_ok ho (by omega) (by omega))) ?_
    rw [cv_neg]
    refine M.o_if (fun hl => M.o_pure ⟨Int.toNat (j - (h + 1)), by omega, rfl, ⟨by dsimp only; omega, by dsimp only; omega, i2⟩, fun c g1 g2 => ?_, p2⟩) (fun hl => M.o_pure ⟨Int.toNat (h - i), by omega, rfl, ⟨i0, by dsimp only; omega, by dsimp only; omega⟩, p1, fun c g1 g2 => ?_⟩)
    · have hl : ¬ dp (G l h) < dp (G l m) := by simpa using hl
      dsimp only at g2
      by_cases e : c = h
      · subst e; omega
      · have := hs c h g1 (by omega) (by omega)
        omega
    · have hl : dp (G l h) < dp (G l m) := by simpa using hl
      dsimp only at g1
      by_cases e : c = h
      · subst e; exact hl
      · have := hs h c (by omega) (by omega) g2
        omega
  · have hb := of_decide_eq_false hb
    exact ⟨⟨i0, by omega⟩, p1, fun c g1 g2 => p2 c (by omega) g2⟩
theorem find4 {l : List Dem} {a m b s0 r0 p : Int} (hp : p = (a + b) / 2 + m - 1) (hab : 0 <= a + b) (hm : 0 <= m) (h3 : b <= l.length) (ha : a <= b) (h4 : l.length <= 1000) (ho : ∀ d ∈ l, ok d) (h0 : 0 <= a) (h1 : a <= s0) (h2 : s0 <= r0) (h5 : r0 <= m) (h6 : m <= b)
    (hr : ∀ c, s0 <= c -> c < r0 -> m <= p - c /\ p - c < b) (hs1 : Srt dp l a m) (hs2 : Srt dp l m b) :
    (M.iter (zaK l a m b dn tr sp tw dl dh fl dn tr sp tw dl dh fl) (s0, r0)).Out (fun s => (s0 <= s /\ s <= r0) /\ (∀ c, s0 <= c -> c < s -> dp (G l (p - c)) <= dp (G l c)) /\ ∀ c, s <= c -> c < r0 -> dp (G l c) < dp (G l (p - c))) := by
  refine M.o_iter (fun (w : Nat) (t : Int × Int) => w = Int.toNat (t.2 - t.1) /\ (s0 <= t.1 /\ t.1 <= t.2 /\ t.2 <= r0) /\ (∀ c, s0 <= c -> c < t.1 -> dp (G l (p - c)) <= dp (G l c)) /\ ∀ c, t.2 <= c -> c < r0 -> dp (G l c) < dp (G l (p - c))) ?_ _ _ ⟨rfl, ⟨Int.le_refl _, h2, Int.le_refl _⟩, fun c g1 g2 => by dsimp only at g2; omega, fun c g1 g2 => by dsimp only at g1; omega⟩
  rintro _ ⟨i, j⟩ ⟨rfl, ⟨i0, i1, i2⟩, p1, p2⟩
  dsimp only at i0 i1 i2 p1 p2
  simp only [zaK]
  rw [← hp]
  refine M.o_if (fun hb => ?_) (fun hb => M.o_pure ?_)
  · have hb := of_decide_eq_true hb
    have q1 : i <= (i + j) / 2 /\ (i + j) / 2 < j := by omega
    generalize (i + j) / 2 = h at q1 ⊢
    have q2 := hr h (by omega) (by omega)
    refine M.o_grd (gA2 (by omega) (by omega)) (M.o_grd (gA2 (by omega) (by omega)) (M.o_grd (gA2 (by omega) (by omega)) (M.o_grd (gA2 (by omega) (by omega)) (M.o_grd (gA2 (by omega) (by omega)) (M.o_grd (gA2 (by omega) (by omega)) ?_)))))
    refine M.o_bindE (hc (G l (p - h)) (G l h) (G_ok ho (by omega) (by omega)) (G_ok ho (by omega) (by omega))) ?_
    rw [cv_neg]
    refine M.o_if (fun hl => M.o_pure ⟨Int.toNat (j - (h + 1)), by omega, rfl, ⟨by dsimp only; omega, by dsimp only; omega, i2⟩, fun c g1 g2 => ?_, p2⟩) (fun hl => M.o_pure ⟨Int.toNat (h - i), by omega, rfl, ⟨i0, by dsimp only; omega, by dsimp only; omega⟩, p1, fun c g1 g2 => ?_⟩)
    · have hl : ¬ dp (G l h) < dp (G l (p - h)) := by simpa using hl
      dsimp only at g2
      by_cases e : c = h
      · subst e; omega
      · have q3 := hr c g1 (by omega)
        have := hs1 c h (by omega) (by omega) (by omega)
        have := hs2 (p - h) (p - c) (by omega) (by omega) (by omega)
        omega
    · have hl : dp (G l h) < dp (G l (p - h)) := by simpa using hl
      dsimp only at g1
      by_cases e : c = h
      · subst e; exact hl
      · have q3 := hr c (by omega) g2
        have := hs1 h c (by omega) (by omega) (by omega)
        have := hs2 (p - c) (p - h) (by omega) (by omega) (by omega)
        omega
  · have hb := of_decide_eq_false hb
    exact ⟨⟨i0, by omega⟩, p1, fun c g1 g2 => p2 c (by omega) g2⟩
omit hc in
theorem shift1 {l : List Dem} {a b i : Int} (h0 : 0 <= a) (h1 : a < i) (h2 : i <= b) (h3 : b <= l.length) (h4 : l.length <= 1000) :
    (M.iter (zaG i) (l, a)).Out (fun l' => Mv l l' a b /\ ∀ k, 0 <= k -> G l' k = if a <= k /\ k < i - 1 then G l (k + 1) else if k = i - 1 then G l a else G l k) := by
  refine M.o_for (Int.toNat (i - 1 - a)) (fun n (t : List Dem × Int) => t.2 = a + n /\ Mv l t.1 a b /\ ∀ k, 0 <= k -> G t.1 k = if a <= k /\ k < t.2 then G l (k + 1) else if k = t.2 then G l a else G l k) ?_ ?_ ⟨by dsimp only; omega, Mv.refl _ _ _, fun k hk => ?_⟩
  · rintro n ⟨q, k⟩ hn ⟨e, hm, hg⟩
    dsimp only at e hm hg
    have ln := hm.ln
    simp only [zaG]
    refine M.o_grd (gA2 (by omega) (by omega)) (M.o_t (decide_eq_true (by omega)) (M.o_grd (gA2 (by omega) (by omega)) (M.o_grd (gA2 (by omega) (by omega)) (M.o_grd (gA2 (by omega) (by omega)) (M.o_grd (gA2 (by omega) (by rw [List.length_set]; omega)) (M.o_pure ⟨by dsimp only; omega, hm.trans (sw_mv (i := k) (j := k + 1) h0 (by omega) (by omega) (by omega)), fun x hx => ?_⟩))))))
    have e1 := sw_G (l := q) (i := k) (j := k + 1) (by omega) (by omega) hx
    refine e1.trans ?_
    dsimp only
    rw [hg k (by omega), hg (k + 1) (by omega), hg x hx]
    repeat' split
    all_goals first | rfl | (congr 1; omega) | (exfalso; omega)
  · rintro ⟨q, k⟩ ⟨e, hm, hg⟩
    dsimp only at e hm hg
    obtain rfl : k = i - 1 := by omega
    simp only [zaG]
    exact M.o_grd (gA2 (by omega) (by omega)) (M.o_f (decide_eq_false (by omega)) (M.o_pure ⟨hm, hg⟩))
  · dsimp only
    by_cases e : k = a
    · rw [if_neg (by omega), if_pos e, e]
    · rw [if_neg (by omega), if_neg e]
omit hc in
theorem shift3 {l : List Dem} {a b i m : Int} (h0 : 0 <= a) (h1 : a <= i) (h2 : i <= m) (h5 : m < b) (h3 : b <= l.length) (h4 : l.length <= 1000) :
    (M.iter (zaA i) (l, m)).Out (fun l' => Mv l l' a b /\ ∀ k, 0 <= k -> G l' k = if k = i then G l m else if i < k /\ k <= m then G l (k - 1) else G l k) := by
  refine M.o_for (Int.toNat (m - i)) (fun n (t : List Dem × Int) => t.2 = m - n /\ Mv l t.1 a b /\ ∀ k, 0 <= k -> G t.1 k = if k = t.2 then G l m else if t.2 < k /\ k <= m then G l (k - 1) else G l k) ?_ ?_ ⟨by dsimp only; omega, Mv.refl _ _ _, fun k hk => ?_⟩
  · rintro n ⟨q, k⟩ hn ⟨e, hm, hg⟩
    dsimp only at e hm hg
    have ln := hm.ln
    simp only [zaA]
    refine M.o_t (decide_eq_true (by omega)) (M.o_grd (gA2 (by omega) (by omega)) (M.o_grd (gA2 (by omega) (by omega)) (M.o_grd (gA2 (by omega) (by omega)) (M.o_grd (gA2 (by omega) (by rw [List.length_set]; omega)) (M.o_pure ⟨by dsimp only; omega, hm.trans (sw_mv (i := k) (j := k - 1) h0 (by omega) (by omega) (by omega)), fun x hx => ?_⟩)))))
    have e1 := sw_G (l := q) (i := k) (j := k - 1) (by omega) (by omega) hx
    refine e1.trans ?_
    dsimp only
    rw [hg k (by omega), hg (k - 1) (by omega), hg x hx]
    repeat' split
    all_goals first | rfl | (congr 1; omega) | (exfalso; omega)
  · rintro ⟨q, k⟩ ⟨e, hm, hg⟩
    dsimp only at e hm hg
    obtain rfl : k = i := by omega
    simp only [zaA]
    exact M.o_f (decide_eq_false (by omega)) (M.o_pure ⟨hm, hg⟩)
  · dsimp only
    by_cases e : k = m
    · rw [if_pos e, e]
    · rw [if_neg e, if_neg (by omega)]
theorem j7_out {self : (List Dem × Int × Int × Int × List Int × List Span × List Int × List Town × Int × Int × List Flood × List Int × List Span × List Int × List Town × Int × Int × List Flood) -> M (List Dem)} {l : List Dem} {a m b s0 r0 : Int}
    (hself : ∀ (l : List Dem) (a' m' b' : Int), 0 <= a' -> a' < m' -> m' < b' -> b' - a' < b - a -> b' <= l.length -> l.length <= 1000 -> (∀ d ∈ l, ok d) -> Srt dp l a' m' -> Srt dp l m' b' -> (self (l, a', m', b', dn, tr, sp, tw, dl, dh, fl, dn, tr, sp, tw, dl, dh, fl)).Out (fun l' => Mv l l' a' b' /\ Srt dp l' a' b'))
    (h0 : 0 <= a) (h1 : a < m) (h2 : m < b) (h3 : b <= l.length) (h4 : l.length <= 1000) (ho : ∀ d ∈ l, ok d) (hs1 : Srt dp l a m) (hs2 : Srt dp l m b)
    (hst : ((a + b) / 2 < m /\ s0 = (a + b) / 2 + m - b /\ r0 = (a + b) / 2) ∨ (m <= (a + b) / 2 /\ s0 = a /\ r0 = m)) :
    (zau l a m b dn tr sp tw dl dh fl dn tr sp tw dl dh fl self s0 r0).Out (fun l' => Mv l l' a b /\ Srt dp l' a b) := by
  unfold zau
  obtain ⟨d, hd⟩ : ∃ d, d = (a + b) / 2 := ⟨_, rfl⟩
  have d1 : 2 * d <= a + b /\ a + b < 2 * d + 2 := by omega
  have F := find4 hc (l := l) (a := a) (m := m) (b := b) (s0 := s0) (r0 := r0) (p := d + m - 1) (by rw [hd]) (by omega) (by omega) h3 (by omega) h4 ho h0 (by omega) (by omega) (by omega) (by omega) (fun c g1 g2 => by omega) hs1 hs2
  rw [← hd] at hst ⊢
  refine M.o_grd (gA2 (by omega) (by omega)) (M.o_bind F ?_)
  rintro s ⟨⟨b1, b2⟩, p1, p2⟩
  obtain ⟨e, he⟩ : ∃ e, e = d + m - s := ⟨_, rfl⟩
  have e1 : a <= s /\ s <= m /\ m <= e /\ e <= b := by omega
  rw [← he]
  -- what is left, once both parts have changed places
  have rest : ∀ l1 : List Dem, Mv l l1 a b -> (∀ k, 0 <= k -> G l1 k = rot (G l) s m e k) -> (zaC a m b dn tr sp tw dl dh fl dn tr sp tw dl dh fl self s l1).Out (fun l' => Mv l l' a b /\ Srt dp l' a b) := by
    intro l1 hm hg
    have ln := hm.ln
    have ho1 : ∀ x ∈ l1, ok x := fun x hx => ho x (hm.pm.mem_iff.1 hx)
    have g1 : ∀ k, a <= k -> k < s -> G l1 k = G l k := fun k k1 k2 => by rw [hg k (by omega)]; unfold rot; rw [if_neg (by omega), if_neg (by omega)]
    have g2 : ∀ k, s <= k -> k < d -> G l1 k = G l (k + (m - s)) := fun k k1 k2 => by rw [hg k (by omega)]; unfold rot; rw [if_pos (by omega)]
    have g3 : ∀ k, d <= k -> k < e -> G l1 k = G l (k - (e - m)) := fun k k1 k2 => by rw [hg k (by omega)]; unfold rot; rw [if_neg (by omega), if_pos (by omega)]
    have g4 : ∀ k, e <= k -> G l1 k = G l k := fun k k1 => by rw [hg k (by omega)]; unfold rot; rw [if_neg (by omega), if_neg (by omega)]
    have r1 : Srt dp l1 a s := fun i j i1 i2 i3 => by rw [g1 i i1 (by omega), g1 j (by omega) i3]; exact hs1 i j i1 i2 (by omega)
    have r2 : Srt dp l1 s d := fun i j i1 i2 i3 => by rw [g2 i i1 (by omega), g2 j (by omega) i3]; exact hs2 _ _ (by omega) (by omega) (by omega)
    have r3 : Srt dp l1 d e := fun i j i1 i2 i3 => by rw [g3 i i1 (by omega), g3 j (by omega) i3]; exact hs1 _ _ (by omega) (by omega) (by omega)
    have r4 : Srt dp l1 e b := fun i j i1 i2 i3 => by rw [g4 i i1, g4 j (by omega)]; exact hs2 i j (by omega) i2 i3
    have cr : ∀ i j, a <= i -> i < d -> d <= j -> j < b -> dp (G l1 j) <= dp (G l1 i) := by
      intro i j i1 i2 j1 j2
      by_cases ci : i < s
      · by_cases cj : j < e
        · rw [g1 i i1 ci, g3 j j1 cj]
          exact hs1 _ _ i1 (by omega) (by omega)
        · rw [g1 i i1 ci, g4 j (by omega)]
          have k1 := p1 (s - 1) (by omega) (by omega)
          rw [show d + m - 1 - (s - 1) = e by omega] at k1
          have k2 : dp (G l j) <= dp (G l e) := by
            by_cases c : j = e
            · rw [c]; exact Int.le_refl _
            · exact hs2 e j (by omega) (by omega) j2
          have k3 : dp (G l (s - 1)) <= dp (G l i) := by
            by_cases c : i = s - 1
            · rw [c]; exact Int.le_refl _
            · exact hs1 i (s - 1) i1 (by omega) (by omega)
          omega
      · by_cases cj : j < e
        · rw [g2 i (by omega) i2, g3 j j1 cj]
          have k1 := p2 s (Int.le_refl _) (by omega)
          rw [show d + m - 1 - s = e - 1 by omega] at k1
          have k2 : dp (G l (j - (e - m))) <= dp (G l s) := by
            by_cases c : j - (e - m) = s
            · rw [c]; exact Int.le_refl _
            · exact hs1 s _ (by omega) (by omega) (by omega)
          have k3 : dp (G l (e - 1)) <= dp (G l (i + (m - s))) := by
            by_cases c : i + (m - s) = e - 1
            · rw [c]; exact Int.le_refl _
            · exact hs2 _ (e - 1) (by omega) (by omega) (by omega)
          omega
        · rw [g2 i (by omega) i2, g4 j (by omega)]
          exact hs2 _ _ (by omega) (by omega) j2
    -- the right half
    have right : ∀ l2 : List Dem, Mv l1 l2 a d -> Srt dp l2 a d -> (zax a m b dn tr sp tw dl dh fl dn tr sp tw dl dh fl self s l2).Out (fun l' => Mv l l' a b /\ Srt dp l' a b) := by
      intro l2 hm2 hq
      have ln2 := hm2.ln
      have ho2 : ∀ x ∈ l2, ok x := fun x hx => ho1 x (hm2.pm.mem_iff.1 hx)
      have t3 : Srt dp l2 d e := r3.same hm2 (by omega) (.inr (Int.le_refl _))
      have t4 : Srt dp l2 e b := r4.same hm2 (by omega) (.inr (by omega))
      have c2 : ∀ i j, a <= i -> i < d -> d <= j -> j < b -> dp (G l2 j) <= dp (G l2 i) := fun i j i1 i2 j1 j2 => by
        rw [hm2.fr j (by omega) (by omega)]
        exact hm2.qs (fun x => dp (G l1 j) <= dp x) (fun k k1 k2 => cr k j k1 k2 j1 j2) i i1 i2
      unfold zax
      rw [← hd, ← he]
      refine M.o_if (fun hb => ?_) (fun hb => M.o_pure ⟨hm.trans (hm2.mono h0 (Int.le_refl _) (by omega)), hq.join ?_ c2⟩)
      · rw [Bool.and_eq_true, decide_eq_true_eq, decide_eq_true_eq] at hb
        refine M.o_bind (hself l2 d e b (by omega) (by omega) (by omega) (by omega) (by omega) (by omega) ho2 t3 t4) ?_
        rintro l3 ⟨hm3, hq3⟩
        refine M.o_pure ⟨(hm.trans (hm2.mono h0 (Int.le_refl _) (by omega))).trans (hm3.mono h0 (by omega) (Int.le_refl _)), (hq.same hm3 (by omega) (.inl (Int.le_refl _))).join hq3 fun i j i1 i2 j1 j2 => ?_⟩
        rw [hm3.fr i (by omega) (by omega)]
        exact hm3.qs (fun x => dp x <= dp (G l2 i)) (fun k k1 k2 => c2 i k i1 i2 k1 k2) j j1 j2
      · rw [Bool.and_eq_false_iff, decide_eq_false_iff_not, decide_eq_false_iff_not] at hb
        intro i j i1 i2 i3
        by_cases c : e = b
        · exact t3 i j i1 i2 (by omega)
        · exact t4 i j (by omega) i2 i3
    unfold zaC
    rw [← hd]
    refine M.o_if (fun hb => ?_) (fun hb => right l1 (Mv.refl _ _ _) ?_)
    · rw [Bool.and_eq_true, decide_eq_true_eq, decide_eq_true_eq] at hb
      refine M.o_bind (hself l1 a s d h0 (by omega) (by omega) (by omega) (by omega) (by omega) ho1 r1 r2) ?_
      rintro l2 ⟨hm2, hq2⟩
      exact right l2 hm2 hq2
    · rw [Bool.and_eq_false_iff, decide_eq_false_iff_not, decide_eq_false_iff_not] at hb
      intro i j i1 i2 i3
      by_cases c : s = a
      · exact r2 i j (by omega) i2 i3
      · exact r1 i j i1 i2 (by omega)
  refine M.o_grd (gA2 (by omega) (by omega)) (M.o_if (fun hb => ?_) (fun hb => rest l (Mv.refl _ _ _) fun k hk => ?_))
  · rw [Bool.and_eq_true, decide_eq_true_eq, decide_eq_true_eq] at hb
    refine M.o_bind (rotate_out (by omega) (by omega) (by omega) (by omega) h4) ?_
    rintro l1 ⟨hm, hg⟩
    exact rest l1 (hm.mono h0 (by omega) (by omega)) hg
  · rw [Bool.and_eq_false_iff, decide_eq_false_iff_not, decide_eq_false_iff_not] at hb
    exact (rot_id (by omega) (by omega) (by omega)).symm
theorem sym_out : ∀ (w : Nat) (l : List Dem) (a m b : Int), w = Int.toNat (b - a) -> 0 <= a -> a < m -> m < b -> b <= l.length -> l.length <= 1000 -> (∀ d ∈ l, ok d) -> Srt dp l a m -> Srt dp l m b →
    (zbD l a m b dn tr sp tw dl dh fl dn tr sp tw dl dh fl).Out (fun l' => Mv l l' a b /\ Srt dp l' a b) := by
  intro w
  induction w using Nat.strongRecOn with
  | _ w ih =>
  intro l a m b hw h0 h1 h2 h3 h4 ho hs1 hs2
  unfold zbD
  suffices k : (zaj (M.fix zaj zcF) (l, a, m, b, dn, tr, sp, tw, dl, dh, fl, dn, tr, sp, tw, dl, dh, fl)).Out (fun l' => Mv l l' a b /\ Srt dp l' a b) by
    obtain ⟨r, k1, k2⟩ := k
    exact ⟨r, M.i_fix k1, k2⟩
  simp only [zaj]
  refine M.o_grd (gA2 (by omega) (by omega)) (M.o_if (fun hb => ?_) (fun hb => M.o_grd (gA2 (by omega) (by omega)) (M.o_if (fun hb2 => ?_) (fun hb2 => ?_))))
  · have hb : m - a = 1 := beq_iff_eq.1 hb
    refine M.o_bind (find0 hc h0 h1 (by omega) h3 h4 ho hs2) ?_
    rintro i ⟨⟨i1, i2⟩, p1, p2⟩
    refine M.o_bind (shift1 (b := b) h0 (by omega) i2 h3 h4) ?_
    rintro l' ⟨hm, hg⟩
    refine M.o_pure ⟨hm, fun x y x1 x2 x3 => ?_⟩
    have ex := hg x (by omega)
    have ey := hg y (by omega)
    by_cases c1 : x < i - 1
    · rw [if_pos (by omega)] at ex
      by_cases c2 : y < i - 1
      · rw [if_pos (by omega)] at ey
        rw [ex, ey]
        exact hs2 _ _ (by omega) (by omega) (by omega)
      · rw [if_neg (by omega)] at ey
        by_cases c3 : y = i - 1
        · rw [if_pos c3] at ey
          rw [ex, ey]
          exact Int.le_of_lt (p1 (x + 1) (by omega) (by omega))
        · rw [if_neg c3] at ey
          rw [ex, ey]
          exact hs2 _ _ (by omega) (by omega) x3
    · rw [if_neg (by omega)] at ex
      rw [if_neg (by omega), if_neg (by omega)] at ey
      by_cases c3 : x = i - 1
      · rw [if_pos c3] at ex
        rw [ex, ey]
        exact p2 y (by omega) x3
      · rw [if_neg c3] at ex
        rw [ex, ey]
        exact hs2 x y (by omega) x2 x3
  · have hb : b - m = 1 := beq_iff_eq.1 hb2
    refine M.o_bind (find2 hc h0 (by omega) h2 h3 h4 ho hs1) ?_
    rintro i ⟨⟨i1, i2⟩, p1, p2⟩
    refine M.o_bind (shift3 (b := b) h0 i1 i2 h2 h3 h4) ?_
    rintro l' ⟨hm, hg⟩
    refine M.o_pure ⟨hm, fun x y x1 x2 x3 => ?_⟩
    have ex := hg x (by omega)
    have ey := hg y (by omega)
    by_cases c1 : y = i
    · rw [if_pos c1] at ey
      rw [if_neg (by omega), if_neg (by omega)] at ex
      rw [ex, ey]
      exact p1 x x1 (by omega)
    · rw [if_neg c1] at ey
      by_cases c2 : i < y
      · rw [if_pos (by omega)] at ey
        by_cases c3 : x = i
        · rw [if_pos c3] at ex
          rw [ex, ey]
          exact Int.le_of_lt (p2 (y - 1) (by omega) (by omega))
        · rw [if_neg c3] at ex
          by_cases c4 : i < x
          · rw [if_pos (by omega)] at ex
            rw [ex, ey]
            exact hs1 _ _ (by omega) (by omega) (by omega)
          · rw [if_neg (by omega)] at ex
            rw [ex, ey]
            by_cases c5 : x = y - 1
            · omega
            · exact hs1 _ _ (by omega) (by omega) (by omega)
      · rw [if_neg (by omega)] at ey
        rw [if_neg (by omega), if_neg (by omega)] at ex
        rw [ex, ey]
        exact hs1 x y x1 x2 (by omega)
  · have hself : ∀ (l : List Dem) (a' m' b' : Int), 0 <= a' -> a' < m' -> m' < b' -> b' - a' < b - a -> b' <= l.length -> l.length <= 1000 -> (∀ d ∈ l, ok d) -> Srt dp l a' m' -> Srt dp l m' b' -> (M.fix zaj zcF (l, a', m', b', dn, tr, sp, tw, dl, dh, fl, dn, tr, sp, tw, dl, dh, fl)).Out (fun l' => Mv l l' a' b' /\ Srt dp l' a' b') :=
      fun l' a' m' b' k0 k1 k2 k3 k4 k5 k6 k7 k8 => ih (Int.toNat (b' - a')) (by omega) l' a' m' b' rfl k0 k1 k2 k4 k5 k6 k7 k8
    refine M.o_grd (gA2 (by omega) (by omega)) (M.o_grd (gA2 (by omega) (by omega)) (M.o_grd (gA2 (by omega) (by omega)) (M.o_grd (gA2 (by omega) (by omega)) (M.o_if (fun hd => ?_) (fun hd => ?_)))))
    · have hd := of_decide_eq_true hd
      exact M.o_grd (gA2 (by omega) (by omega)) (j7_out hc hself h0 h1 h2 h3 h4 ho hs1 hs2 (.inl ⟨hd, rfl, rfl⟩))
    · have hd := of_decide_eq_false hd
      exact j7_out hc hself h0 h1 h2 h3 h4 ho hs1 hs2 (.inr ⟨by omega, rfl, rfl⟩)
theorem stable_out {l : List Dem} (h4 : l.length <= 1000) (ho : ∀ d ∈ l, ok d) :
    (zbY l (l.length : Int) dn tr sp tw dl dh fl dn tr sp tw dl dh fl).Out (fun l' => Mv l l' 0 l.length /\ Srt dp l' 0 l.length) := by
  obtain ⟨n, hn⟩ : ∃ n : Int, n = l.length := ⟨_, rfl⟩
  rw [← hn]
  unfold zbY
  refine M.o_bind (P := fun y => Mv l y.2.2 0 n /\ ∃ t : Nat, y.2.1 = (t : Int) * 20 /\ y.2.1 <= n /\ n < y.2.1 + 20 /\ ∀ t' : Nat, t' < t -> Srt dp y.2.2 ((t' : Int) * 20) ((t' : Int) * 20 + 20)) ?_ ?_
  · refine M.o_iter (fun (w : Nat) (y : List Dem × Int × Int) => w = Int.toNat (n - y.2.1) /\ y.2.2 = y.2.1 + 20 /\ Mv l y.1 0 n /\ ∃ t : Nat, y.2.1 = (t : Int) * 20 /\ y.2.1 <= n /\ ∀ t' : Nat, t' < t -> Srt dp y.1 ((t' : Int) * 20) ((t' : Int) * 20 + 20)) ?_ _ _ ⟨rfl, rfl, Mv.refl _ _ _, 0, rfl, by dsimp only; omega, fun t' h => by omega⟩
    rintro _ ⟨q, a, b⟩ ⟨rfl, e, hm, t, e2, h5, hs⟩
    dsimp only at e hm e2 h5 hs
    have ln := hm.ln
    simp only [zbP]
    refine M.o_if (fun hb => ?_) (fun hb => M.o_pure ?_)
    · have hb := of_decide_eq_true hb
      refine M.o_bind (insert_out hc (l := q) (a := a) (b := b) (by omega) (by omega) (by omega) (by omega) fun d hd => ho d (hm.pm.mem_iff.1 hd)) ?_
      rintro q' ⟨km, ks⟩
      refine M.o_grd (gA2 (by omega) (by omega)) (M.o_pure ⟨Int.toNat (n - b), by omega, rfl, rfl, hm.trans (km.mono (by omega) (by omega) (by omega)), t + 1, by dsimp only; omega, hb, fun t' h => ?_⟩)
      dsimp only
      by_cases c : t' = t
      · subst c
        rw [← e2, ← e]
        exact ks
      · exact (hs t' (by omega)).same km (by omega) (.inl (by omega))
    · have hb := of_decide_eq_false hb
      exact ⟨hm, t, e2, h5, by dsimp only; omega, hs⟩
  rintro ⟨_, a, q⟩ ⟨hm, t, e2, h5, h6, hs⟩
  dsimp only at hm e2 h5 h6 hs ⊢
  have ln := hm.ln
  refine M.o_bind (insert_out hc (l := q) (a := a) (b := n) (by omega) h5 (by omega) (by omega) fun d hd => ho d (hm.pm.mem_iff.1 hd)) ?_
  rintro q1 ⟨km, ks⟩
  have hb0 : ∀ t' : Nat, ∀ i j, (t' : Int) * 20 <= i -> i < j -> j < (t' : Int) * 20 + 20 -> j < n -> dp (G q1 j) <= dp (G q1 i) := by
    intro t' i j g1 g2 g3 g4
    rcases Nat.lt_trichotomy t' t with c | c | c
    · exact ((hs t' c).same km (by omega) (.inl (by omega))) i j g1 g2 g3
    · subst c
      exact ks i j (by omega) g2 g4
    · omega
  refine M.o_bind (P := fun l' => Mv l l' 0 n /\ Srt dp l' 0 n) ?_ (fun y hy => M.o_pure hy)
  refine M.o_iter (fun (w : Nat) (y : List Dem × Int) => w = Int.toNat (n - y.2) /\ (20 <= y.2 /\ y.2 <= 2000) /\ Mv l y.1 0 n /\ ∀ t' : Nat, ∀ i j, (t' : Int) * y.2 <= i -> i < j -> j < (t' : Int) * y.2 + y.2 -> j < n -> dp (G y.1 j) <= dp (G y.1 i)) ?_ _ _ ⟨rfl, ⟨by dsimp only; omega, by dsimp only; omega⟩, hm.trans (km.mono (by omega) (by omega) (Int.le_refl _)), hb0⟩
  rintro _ ⟨q2, bs⟩ ⟨rfl, ⟨bs0, bs1⟩, hm2, hb2⟩
  dsimp only at bs0 bs1 hm2 hb2
  have ln2 := hm2.ln
  simp only [zbX]
  refine M.o_if (fun hlt => ?_) (fun hlt => M.o_pure ⟨hm2, fun i j g1 g2 g3 => ?_⟩)
  · have hlt := of_decide_eq_true hlt
    refine M.o_grd (gA2 (by omega) (by omega)) ?_
    -- pairs of blocks
    refine M.o_bind (P := fun y => Mv l y.2.2 0 n /\ ∃ t : Nat, y.2.1 = 2 * ((t : Int) * bs) /\ y.2.1 <= n /\ n < y.2.1 + 2 * bs /\ (∀ t' : Nat, t' < t -> Srt dp y.2.2 (2 * ((t' : Int) * bs)) (2 * ((t' : Int) * bs) + 2 * bs)) /\ ∀ p : Nat, y.2.1 <= (p : Int) * bs -> ∀ i j, (p : Int) * bs <= i -> i < j -> j < (p : Int) * bs + bs -> j < n -> dp (G y.2.2 j) <= dp (G y.2.2 i)) ?_ ?_
    · refine M.o_iter (fun (w : Nat) (y : List Dem × Int × Int) => w = Int.toNat (n - y.2.1) /\ y.2.2 = y.2.1 + 2 * bs /\ Mv l y.1 0 n /\ ∃ t : Nat, y.2.1 = 2 * ((t : Int) * bs) /\ y.2.1 <= n /\ (∀ t' : Nat, t' < t -> Srt dp y.1 (2 * ((t' : Int) * bs)) (2 * ((t' : Int) * bs) + 2 * bs)) /\ ∀ p : Nat, y.2.1 <= (p : Int) * bs -> ∀ i j, (p : Int) * bs <= i -> i < j -> j < (p : Int) * bs + bs -> j < n -> dp (G y.1 j) <= dp (G y.1 i)) ?_ _ _ ⟨rfl, by dsimp only; omega, hm2, 0, by dsimp only; omega, by dsimp only; omega, fun t' h => by omega, fun p _ => hb2 p⟩
      rintro _ ⟨q3, a3, b3⟩ ⟨rfl, e3, hm3, t3, e4, h7, hs3, hr3⟩
      dsimp only at e3 hm3 e4 h7 hs3 hr3
      have ln3 := hm3.ln
      have f1 : ((2 * t3 : Nat) : Int) * bs = a3 := by rw [show ((2 * t3 : Nat) : Int) = 2 * (t3 : Int) by omega, Int.mul_assoc, e4]
      have f2 : ((2 * t3 + 1 : Nat) : Int) * bs = a3 + bs := by rw [show ((2 * t3 + 1 : Nat) : Int) = 2 * (t3 : Int) + 1 by omega, Int.add_mul, Int.mul_assoc, Int.one_mul, e4]
      simp only [zb6]
      have t0 : 0 <= (t3 : Int) * bs := Int.mul_nonneg (by omega) (by omega)
      refine M.o_if (fun hb => ?_) (fun hb => M.o_pure ?_)
      · have hb := of_decide_eq_true hb
        refine M.o_grd (gA2 (by omega) (by omega)) (M.o_bind (sym_out hc _ q3 a3 (a3 + bs) b3 rfl (by omega) (by omega) (by omega) (by omega) (by omega) (fun d hd => ho d (hm3.pm.mem_iff.1 hd)) ?_ ?_) ?_)
        · intro i j g1 g2 g3
          exact hr3 (2 * t3) (by omega) i j (by omega) g2 (by omega) (by omega)
        · intro i j g1 g2 g3
          exact hr3 (2 * t3 + 1) (by omega) i j (by omega) g2 (by omega) (by omega)
        · rintro q4 ⟨km4, ks4⟩
          refine M.o_grd (gA2 (by omega) (by omega)) (M.o_pure ⟨Int.toNat (n - b3), by omega, rfl, rfl, hm3.trans (km4.mono (by omega) (by omega) (by omega)), t3 + 1, ?_, hb, fun t' h => ?_, fun p hp i j g1 g2 g3 g4 => ?_⟩)
          · dsimp only
            rw [show ((t3 + 1 : Nat) : Int) = (t3 : Int) + 1 by omega, Int.add_mul, Int.one_mul]
            omega
          · dsimp only
            by_cases c : t' = t3
            · subst c
              rw [← e4, ← e3]
              exact ks4
            · have k1 : ((t' : Int) + 1) * bs <= (t3 : Int) * bs := Int.mul_le_mul_of_nonneg_right (by omega) (by omega)
              rw [Int.add_mul, Int.one_mul] at k1
              have k2 : 0 <= (t' : Int) * bs := Int.mul_nonneg (by omega) (by omega)
              exact (hs3 t' (by omega)).same km4 (by omega) (.inl (by omega))
          · dsimp only at hp ⊢
            rw [km4.fr i (by omega) (by omega), km4.fr j (by omega) (by omega)]
            exact hr3 p (by omega) i j g1 g2 g3 g4
      · have hb := of_decide_eq_false hb
        exact ⟨hm3, t3, e4, h7, by dsimp only; omega, hs3, hr3⟩
    rintro ⟨_, a3, q3⟩ ⟨hm3, t3, e4, h7, h8, hs3, hr3⟩
    dsimp only at hm3 e4 h7 h8 hs3 hr3 ⊢
    have ln3 := hm3.ln
    have f1 : ((2 * t3 : Nat) : Int) * bs = a3 := by rw [show ((2 * t3 : Nat) : Int) = 2 * (t3 : Int) by omega, Int.mul_assoc, e4]
    have f2 : ((2 * t3 + 1 : Nat) : Int) * bs = a3 + bs := by rw [show ((2 * t3 + 1 : Nat) : Int) = 2 * (t3 : Int) + 1 by omega, Int.add_mul, Int.mul_assoc, Int.one_mul, e4]
    have t0 : 0 <= (t3 : Int) * bs := Int.mul_nonneg (by omega) (by omega)
    have fin : ∀ q4 : List Dem, Mv q3 q4 a3 n -> Srt dp q4 a3 n -> ∀ t' : Nat, ∀ i j, (t' : Int) * (bs * 2) <= i -> i < j -> j < (t' : Int) * (bs * 2) + bs * 2 -> j < n -> dp (G q4 j) <= dp (G q4 i) := by
      intro q4 km4 ks4 t' i j g1 g2 g3 g4
      have k0 : (t' : Int) * (bs * 2) = 2 * ((t' : Int) * bs) := by rw [← Int.mul_assoc, Int.mul_comm]
      rw [k0] at g1 g3
      have k2 : 0 <= (t' : Int) * bs := Int.mul_nonneg (by omega) (by omega)
      rcases Nat.lt_trichotomy t' t3 with c | c | c
      · have k1 : ((t' : Int) + 1) * bs <= (t3 : Int) * bs := Int.mul_le_mul_of_nonneg_right (by omega) (by omega)
        rw [Int.add_mul, Int.one_mul] at k1
        exact ((hs3 t' c).same km4 (by omega) (.inl (by omega))) i j g1 g2 (by omega)
      · subst c
        exact ks4 i j (by omega) g2 g4
      · have k1 : ((t3 : Int) + 1) * bs <= (t' : Int) * bs := Int.mul_le_mul_of_nonneg_right (by omega) (by omega)
        rw [Int.add_mul, Int.one_mul] at k1
        omega
    refine M.o_grd (gA2 (by omega) (by omega)) (M.o_if (fun hb => ?_) (fun hb => ?_))
    · have hb := of_decide_eq_true hb
      refine M.o_bind (sym_out hc _ q3 a3 (a3 + bs) n rfl (by omega) (by omega) hb (by omega) (by omega) (fun d hd => ho d (hm3.pm.mem_iff.1 hd)) ?_ ?_) ?_
      · intro i j g1 g2 g3
        exact hr3 (2 * t3) (by omega) i j (by omega) g2 (by omega) (by omega)
      · intro i j g1 g2 g3
        exact hr3 (2 * t3 + 1) (by omega) i j (by omega) g2 (by omega) g3
      · rintro q4 ⟨km4, ks4⟩
        exact M.o_grd (gA2 (by omega) (by omega)) (M.o_pure ⟨Int.toNat (n - bs * 2), by omega, rfl, ⟨by dsimp only; omega, by dsimp only; omega⟩, hm3.trans (km4.mono (by omega) (by omega) (Int.le_refl _)), fin q4 km4 ks4⟩)
    · have hb := of_decide_eq_false hb
      refine M.o_grd (gA2 (by omega) (by omega)) (M.o_pure ⟨Int.toNat (n - bs * 2), by omega, rfl, ⟨by dsimp only; omega, by dsimp only; omega⟩, hm3, fin q3 (Mv.refl _ _ _) fun i j g1 g2 g3 => ?_⟩)
      exact hr3 (2 * t3) (by omega) i j (by omega) g2 (by omega) g3
  · have hlt := of_decide_eq_false hlt
    exact hb2 0 i j (by omega) g2 (by omega) g3
theorem sort_out {l : List Dem} (h4 : l.length <= 1000) (ho : ∀ d ∈ l, ok d) :
    (zb9 l dn tr sp tw dl dh fl dn tr sp tw dl dh fl).Out (fun l' => l'.Perm l /\ Srt dp l' 0 l.length) := by
  unfold zb9
  exact M.o_bind (stable_out hc h4 ho) fun l' h => M.o_pure ⟨h.1.pm, h.2⟩
end
end Go.Proofs.Ytbaehghammbjdaa
namespace Go.Proofs.Ytbaehghammbjdaa
open Go Go.Nm
theorem awake_ends : (zcA).Ends true := ⟨300, by kernel_rfl⟩
end Go.Proofs.Ytbaehghammbjdaa
namespace Go.Nm
namespace Wn
/-- A river that is right. -/
structure Rv (dn : List Int) (tr : List Span) (sp : List Int) (tw : List Town) (dl dh : Int) (fl : List Flood) : Prop where
  n1 : 1 <= dn.length
  n12 : dn.length <= 12
  nx : Dn dn
  tl : tr.length = dn.length
  hr : ∀ i, i < tr.length -> 0 <= (tr.getD i default).lo /\ (tr.getD i default).lo <= (tr.getD i default).hi /\ (tr.getD i default).hi <= 1000
  s1 : 1 <= sp.length
  s8 : sp.length <= 8
  sr : sp.Pairwise (· < ·)
  si : ∀ x ∈ sp, 0 <= x /\ x < dn.length
  t8 : tw.length <= 8
  tok : ∀ t ∈ tw, (0 <= t.station /\ t.station < dn.length) /\ (0 <= t.lead /\ t.lead <= 1000) /\ 0 <= t.alarm /\ t.alarm <= 2000
  d0 : 0 <= dl
  d1 : dl <= dh
  d2 : dh <= 1000
  f20 : fl.length <= 20
  fok : ∀ f ∈ fl, f.spring ∈ sp /\ f.stages.length = (P dn f.spring).length /\ ∀ x ∈ f.stages, 0 <= x /\ x <= 2000
theorem sum_step {α : Type} (f : α -> Int) (l : List α) {i : Nat} (h : i < l.length) (d : α) : ((l.take (i + 1)).map f).sum = ((l.take i).map f).sum + f (l.getD i d) := by
  rw [List.take_succ_eq_append_getElem h, List.map_append, List.sum_append, List.map_cons, List.map_nil, List.sum_cons, List.sum_nil, Int.add_zero]
  congr 1
  rw [List.getD_eq_getElem?_getD, List.getElem?_eq_getElem h, Option.getD_some]
theorem sum_in {α : Type} (f : α -> Int) (l : List α) (hb : ∀ s ∈ l, -100000 <= f s /\ f s <= 100000) : -100000 * (l.length : Int) <= (l.map f).sum /\ (l.map f).sum <= 100000 * (l.length : Int) := by
  induction l with
  | nil => simp
  | cons a l ih =>
    have h1 := ih fun s hs => hb s (by simp [hs])
    have h2 := hb a (by simp)
    rw [List.map_cons, List.sum_cons, List.length_cons]
    omega
end Wn
end Go.Nm
namespace Go.Proofs.Ytbaehghammbjdaa
open Go Go.Nm
theorem added_ends (l : List Span) (hl : l.length <= 100) (hb : ∀ s ∈ l, (-100000 <= s.lo /\ s.lo <= 100000) /\ -100000 <= s.hi /\ s.hi <= 100000) : (zba l).Ends ((l.map (·.lo)).sum, (l.map (·.hi)).sum) := by
  unfold zba
  refine M.i_bind (a := ((l.map (·.lo)).sum, (l.map (·.hi)).sum)) ?_ M.i_pure
  refine M.Out.ends ?_
  refine M.o_for l.length (fun i (s : Int × Int × Nat) => s = (((l.take i).map (·.lo)).sum, ((l.take i).map (·.hi)).sum, i)) ?_ ?_ (by simp)
  · rintro i _ hi rfl
    simp only [zbr]
    have a1 := Wn.sum_in (fun s : Span => s.lo) (l.take i) fun s hs => (hb s (List.mem_of_mem_take hs)).1
    have a2 := Wn.sum_in (fun s : Span => s.hi) (l.take i) fun s hs => (hb s (List.mem_of_mem_take hs)).2
    rw [List.length_take] at a1 a2
    have hm : l.getD i default ∈ l := by rw [List.getD_eq_getElem?_getD, List.getElem?_eq_getElem hi, Option.getD_some]; exact List.getElem_mem hi
    have a3 := hb _ hm
    refine M.o_t (decide_eq_true (by omega)) (M.o_grdD (by omega) (M.o_grd (gA2 (by omega) (by omega)) (M.o_grd (gA2 (by omega) (by omega)) (M.o_pure ?_))))
    rw [Wn.sum_step (fun s : Span => s.lo) l hi default, Wn.sum_step (fun s : Span => s.hi) l hi default]
  · rintro _ rfl
    simp only [zbr]
    refine M.o_f (decide_eq_false (by omega)) (M.o_pure ?_)
    rw [List.take_length]
variable {dn : List Int} {tr : List Span} {sp : List Int} {tw : List Town} {dl dh : Int} {fl : List Flood}
/-- A round over a path. -/
theorem path_out {S X : Type} {bd : S -> Int × Int -> M (S ⊕ X)} {Q : S ⊕ X -> Prop} (h : Wn.Dn dn) (h12 : dn.length <= 12) {s : Int} (hs : Wn.Stn dn s) {s0 : S} (J : Nat -> S -> Prop) (h0 : J 0 s0)
    (hr : ∀ k (hk : k < (Wn.P dn s).length) t, J k t -> (bd t ((k : Int), (Wn.P dn s)[k])).Out (fun x => match x with | .inl t' => J (k + 1) t' | .inr x => Q (.inr x))) (hl : ∀ t, J (Wn.P dn s).length t -> Q (.inl t))
    (k11 : List Span) (k12 : List Int) (k13 : List Town) (k14 k15 : Int) (k16 : List Flood) : (zak (M.yl bd) (.inl s0) s dn k11 k12 k13 k14 k15 k16).Out (fun y => Q y.1) := by
  unfold zak
  refine M.o_bind (P := fun y => match y with | .inl t => Q t.1 | .inr t => Q t.1) ?_ (fun y hy => by
    cases y with
    | inl t => exact M.o_pure hy
    | inr t => exact M.o_pure hy)
  have hsh := Wn.P_short h hs
  refine M.o_for (Wn.P dn s).length (fun i (t : Int × Nat × (S ⊕ X)) => t.2.1 = i /\ (Wn.P dn t.1 = (Wn.P dn s).drop i /\ Wn.Stn dn t.1) /\ ∃ t', t.2.2 = .inl t' /\ J i t') ?_ ?_ ⟨rfl, ⟨by rw [List.drop_zero], hs⟩, s0, rfl, h0⟩
  · rintro i ⟨c, q, t⟩ hi ⟨e1, ⟨e2, e3⟩, t', e4, hj⟩
    dsimp only at e1 e2 e3 e4
    subst e1 e4
    simp only [zaL]
    have hd : (Wn.P dn s).drop q = (Wn.P dn s)[q] :: (Wn.P dn s).drop (q + 1) := List.drop_eq_getElem_cons hi
    have hc : 0 <= c /\ c < dn.length := by
      rcases e3 with rfl | e3
      · rw [Wn.P_none, hd] at e2
        cases e2
      · exact e3
    rw [Wn.P_cons h hc.1 hc.2, hd] at e2
    obtain ⟨g1, g2⟩ := List.cons.inj e2
    have hx := h.next hc.1 hc.2
    refine M.o_t (by rw [decide_eq_true hc.2]; simp; omega) ?_
    obtain ⟨x, y1, y2⟩ := hr q hi t' hj
    rw [← g1] at y1
    cases x with
    | inl s2 => exact M.o_bindE (a := (true, .inl s2)) (M.i_bind y1 M.i_pure) (M.o_f rfl (M.o_grd (gA2 hc.1 hc.2) (M.o_grd (gA2 (by omega) (by omega)) (M.o_pure ⟨rfl, ⟨g2, h.next_st hc.1 hc.2⟩, s2, rfl, y2⟩))))
    | inr x2 => exact M.o_bindE (a := (false, .inr x2)) (M.i_bind y1 M.i_pure) (M.o_t rfl (M.o_pure y2))
  · rintro ⟨c, q, t⟩ ⟨e1, ⟨e2, e3⟩, t', e4, hj⟩
    dsimp only at e1 e2 e3 e4
    subst e1 e4
    simp only [zaL]
    rw [List.drop_length] at e2
    have hc : c = -1 := by
      rcases e3 with e3 | e3
      · exact e3
      · rw [Wn.P_cons h e3.1 e3.2] at e2
        cases e2
    subst hc
    exact M.o_f (by simp) (M.o_pure (hl t' hj))
theorem travels_ends (R : Wn.Rv dn tr sp tw dl dh fl) {s : Int} (hs : Wn.Stn dn s) (y : Int) :
    (zay dn tr sp tw dl dh fl s y).Ends (if y ∈ Wn.P dn s then (Wn.sm (Wn.lo tr) (Wn.upto (Wn.P dn s) y), Wn.sm (Wn.hi tr) (Wn.upto (Wn.P dn s) y), true) else (0, 0, false)) := by
  refine M.Out.ends ?_
  unfold zay
  have hp : (zan dn tr sp tw dl dh fl s).Ends (s, dl, dh) := M.i_pure
  refine M.o_bindE hp ?_
  dsimp only
  have h12 := R.n12
  have hsh := Wn.P_short R.nx hs
  refine M.o_bind (path_out (Q := fun x => match x with | .inl _ => y ∉ Wn.P dn s | .inr (_, _, a, b) => y ∈ Wn.P dn s /\ a = Wn.sm (Wn.lo tr) (Wn.upto (Wn.P dn s) y) /\ b = Wn.sm (Wn.hi tr) (Wn.upto (Wn.P dn s) y)) R.nx R.n12 hs
    (fun k (l : List Span) => l = ((Wn.P dn s).take k).map (fun x => tr.getD (Int.toNat x) default) /\ y ∉ (Wn.P dn s).take k) ⟨by simp, by simp⟩ ?_ ?_ _ _ _ _ _ _) ?_
  · rintro k hk l ⟨rfl, hn⟩
    have hin := Wn.P_mem R.nx s hs _ (List.getElem_mem hk)
    have htl := R.tl
    simp only [zat]
    refine M.o_if (fun hb => ?_) (fun hb => ?_)
    · have hb : (Wn.P dn s)[k] = y := by simpa using hb
      refine M.o_bindE (added_ends _ (by rw [List.length_map, List.length_take]; omega) fun sp_ hsp => ?_) (M.o_pure ?_)
      · obtain ⟨x, hx, rfl⟩ := List.mem_map.1 hsp
        have h1 := Wn.P_mem R.nx s hs x (List.mem_of_mem_take hx)
        have h2 := R.hr (Int.toNat x) (by omega)
        omega
      · have hu : Wn.upto (Wn.P dn s) y = (Wn.P dn s).take k := Wn.upto_take (by rw [List.getElem?_eq_getElem hk, hb]) fun z hz e => hn (by rw [← e]; exact hz)
        dsimp only
        rw [hu]
        refine ⟨by rw [← hb]; exact List.getElem_mem hk, ?_, ?_⟩
        · unfold Wn.sm
          rw [List.map_map]
          rfl
        · unfold Wn.sm
          rw [List.map_map]
          rfl
    · have hb : (Wn.P dn s)[k] ≠ y := by simpa using hb
      refine M.o_grd (gA2 (by omega) (by omega)) (M.o_grdD (by simp; omega) (M.o_pure ⟨?_, ?_⟩))
      · rw [List.take_succ_eq_append_getElem hk, List.map_append]
        rfl
      · rw [List.take_succ_eq_append_getElem hk, List.mem_append]
        rintro (h1 | h1)
        · exact hn h1
        · exact hb (List.mem_singleton.1 h1).symm
  · rintro l ⟨_, hn⟩
    rw [List.take_length] at hn
    exact hn
  · rintro ⟨x, q⟩ hq
    cases x with
    | inl l =>
      dsimp only at hq ⊢
      refine M.o_pure ?_
      rw [if_neg hq]
    | inr z =>
      obtain ⟨l2, l3, a, b⟩ := z
      dsimp only at hq ⊢
      refine M.o_pure ?_
      rw [if_pos hq.1, hq.2.1, hq.2.2]
theorem in_ends (n a b : Int) : (zad n a b).Ends (decide (a <= n) && decide (n <= b)) := M.i_pure
theorem in_true {n a b : Int} (h1 : a <= n) (h2 : n <= b) : (zad n a b).Ends true := by
  have := in_ends n a b
  rwa [gA2 h1 h2] at this
theorem hours_true {s : Span} (h0 : 0 <= s.lo) (h1 : s.lo <= s.hi) (h2 : s.hi <= 1000) : (zbH s).Ends true := by
  unfold zbH
  exact M.i_bind (in_true h0 h1) (M.i_bind (M.i_opt (fun _ => in_true (by omega) h2) (fun h => by cases h)) M.i_pure)
theorem stage_true {n : Int} (h0 : 0 <= n) (h1 : n <= 2000) : (zaJ n).Ends true := by
  unfold zaJ
  exact M.i_bind (in_true h0 h1) M.i_pure
theorem every_town (l : List Town) (so : Town -> M Bool) (h : ∀ t ∈ l, (so t).Ends true) : (zbF l so).Ends true := by
  unfold zbF zbl zct
  refine M.i_bind (a := false) (M.i_bind (a := -1) (M.i_bind (a := (.inr () : Int ⊕ Unit)) ?_ M.i_pure) M.i_pure) M.i_pure
  refine M.i_for (fun i => i) l.length (fun i hi => ?_) ?_
  · simp only [zby]
    have hm : l.getD i default ∈ l := by rw [List.getD_eq_getElem?_getD, List.getElem?_eq_getElem hi, Option.getD_some]; exact List.getElem_mem hi
    refine M.i_t (decide_eq_true (by omega)) (M.i_grd (decide_eq_true (by omega)) (M.i_bind (a := false) ?_ (M.i_f rfl M.i_pure)))
    unfold zca
    exact M.i_bind (h _ hm) M.i_pure
  · simp only [zby]
    exact M.i_f (decide_eq_false (by omega)) M.i_pure
theorem every_int (l : List Int) (so : Int -> M Bool) (h : ∀ t ∈ l, (so t).Ends true) : (zbz l so).Ends true := by
  unfold zbz zaR zbZ
  refine M.i_bind (a := false) (M.i_bind (a := -1) (M.i_bind (a := (.inr () : Int ⊕ Unit)) ?_ M.i_pure) M.i_pure) M.i_pure
  refine M.i_for (fun i => i) l.length (fun i hi => ?_) ?_
  · simp only [zaE]
    have hm : l.getD i 0 ∈ l := by rw [List.getD_eq_getElem?_getD, List.getElem?_eq_getElem hi, Option.getD_some]; exact List.getElem_mem hi
    refine M.i_t (decide_eq_true (by omega)) (M.i_grd (decide_eq_true (by omega)) (M.i_bind (a := false) ?_ (M.i_f rfl M.i_pure)))
    unfold zb7
    exact M.i_bind (h _ hm) M.i_pure
  · simp only [zaE]
    exact M.i_f (decide_eq_false (by omega)) M.i_pure
theorem contains_true {s : List Int} {v : Int} (h : v ∈ s) : (zcb s v).Ends true := by
  unfold zcb zch
  have key : (M.iter (zbC s v) 0).Out (fun r => match r with | .inl i => 0 <= i | .inr (_ : Unit) => False) := by
    refine M.o_for s.length (fun i (k : Nat) => k = i /\ ∀ j, j < i -> s.getD j 0 ≠ v) ?_ ?_ ⟨rfl, fun j hj => by omega⟩
    · rintro i _ hi ⟨rfl, hp⟩
      simp only [zbC]
      refine M.o_t (decide_eq_true (by omega)) (M.o_grdD (by omega) (M.o_if (fun hb => M.o_pure (by omega)) (fun hb => M.o_pure ⟨rfl, fun j hj => ?_⟩)))
      rcases Nat.lt_or_eq_of_le (Nat.le_of_lt_succ hj) with e | e
      · exact hp j e
      · subst e
        exact fun e => (beq_eq_false_iff_ne.1 hb) e.symm
    · rintro _ ⟨rfl, hp⟩
      exfalso
      obtain ⟨i, hi, e⟩ := List.getElem_of_mem h
      have := hp i hi
      rw [List.getD_eq_getElem?_getD, List.getElem?_eq_getElem hi, Option.getD_some] at this
      exact this e
  obtain ⟨r, h1, h2⟩ := key
  cases r with
  | inl i => exact M.i_bind (M.i_bind h1 M.i_pure) (by rw [decide_eq_true h2]; exact M.i_pure)
  | inr u => exact h2.elim
theorem rising_true {l : List Int} {n : Int} (hn : 0 <= n /\ n <= 1000) (hu : l.Pairwise (· < ·)) (hb : ∀ x ∈ l, 0 <= x /\ x < n) : (za0 l n).Ends true := by
  unfold za0
  refine M.i_bind (a := (.inr () : Unit ⊕ Unit)) ?_ M.i_pure
  refine M.Out.ends ?_
  refine M.o_for l.length (fun i (s : Int × Nat) => s.2 = i /\ -1 <= s.1 /\ s.1 < 1000 /\ ∀ j, i <= j -> j < l.length -> s.1 < l.getD j 0) ?_ ?_ ⟨rfl, by decide, by decide, fun j _ hj => ?_⟩
  · rintro i ⟨a, q⟩ hi ⟨e1, e2, e3, e4⟩
    dsimp only at e1 e2 e3 e4
    subst e1
    simp only [zbx]
    have hm : l.getD q 0 ∈ l := by rw [List.getD_eq_getElem?_getD, List.getElem?_eq_getElem hi, Option.getD_some]; exact List.getElem_mem hi
    have h1 := hb _ hm
    have h2 := e4 q (Nat.le_refl _) hi
    refine M.o_t (decide_eq_true (by omega)) (M.o_grdD (by omega) (M.o_grd (gA2 (by omega) (by omega)) (M.o_grd (gA2 (by omega) (by omega)) (M.o_bindE (in_true (by omega) (by omega)) (M.o_f rfl (M.o_pure ⟨rfl, by dsimp only; omega, by dsimp only; omega, fun j h3 h4 => ?_⟩))))))
    have := List.pairwise_iff_getElem.1 hu q j hi h4 (by omega)
    dsimp only
    rw [List.getD_eq_getElem?_getD, List.getElem?_eq_getElem hi, Option.getD_some, List.getD_eq_getElem?_getD, List.getElem?_eq_getElem h4, Option.getD_some]
    exact this
  · rintro ⟨a, q⟩ ⟨e1, _⟩
    dsimp only at e1
    subst e1
    simp only [zbx]
    exact M.o_f (decide_eq_false (by omega)) (M.o_pure rfl)
  · have hm : l.getD j 0 ∈ l := by rw [List.getD_eq_getElem?_getD, List.getElem?_eq_getElem hj, Option.getD_some]; exact List.getElem_mem hj
    have := hb _ hm
    dsimp only
    omega
theorem check_ends (R : Wn.Rv dn tr sp tw dl dh fl) : (zbh dn tr sp tw dl dh fl).Ends 0 := by
  have n1 := R.n1
  have n12 := R.n12
  have tl := R.tl
  have s1 := R.s1
  have s8 := R.s8
  have t8 := R.t8
  have f20 := R.f20
  unfold zbh
  refine M.i_bind (in_true (by omega) (by omega)) (M.i_bind (M.i_opt (fun _ => in_true (by omega) (by omega)) (fun h => by simp [tl] at h)) (M.i_f ?_ ?_))
  · rw [decide_eq_false (by omega), decide_eq_false (by omega), tl]
    simp
  refine M.i_bind (a := (.inr () : Int ⊕ Unit)) ?_ ?_
  · refine M.i_for (fun i => i) dn.length (fun i hi => ?_) ?_
    · simp only [za8]
      have h1 := R.nx i hi
      have h2 := R.hr i (by omega)
      refine M.i_t (decide_eq_true (by omega)) (M.i_grd (decide_eq_true (by omega)) ?_)
      by_cases e : dn.getD i 0 = -1
      · refine M.i_bind (a := false) (M.i_opt (fun h => by rw [e] at h; cases h) (fun _ => rfl)) (M.i_f (by rw [e]; rfl) (M.i_grd (decide_eq_true (by omega)) (M.i_bind (hours_true h2.1 h2.2.1 h2.2.2) (M.i_f rfl M.i_pure))))
      · refine M.i_bind (a := true) (M.i_opt (fun _ => in_true (by omega) (by omega)) (fun h => absurd (bne_eq_false_iff_eq.1 h) e)) (M.i_f (by simp) (M.i_grd (decide_eq_true (by omega)) (M.i_bind (hours_true h2.1 h2.2.1 h2.2.2) (M.i_f rfl M.i_pure))))
    · simp only [za8]
      exact M.i_f (decide_eq_false (by omega)) M.i_pure
  dsimp only
  refine M.i_bind (rising_true (by omega) R.sr R.si) (M.i_f rfl ?_)
  refine M.i_bind (every_town tw _ fun t ht => ?_) (M.i_bind (a := true) (M.i_opt (fun _ => every_town tw _ fun t ht => ?_) (fun h => by cases h)) (M.i_bind (a := true) (M.i_opt (fun _ => hours_true R.d0 R.d1 R.d2) (fun h => by cases h)) (M.i_f rfl ?_)))
  · have k := R.tok t ht
    unfold zb3
    exact M.i_bind (in_true k.2.1.1 k.2.1.2) (M.i_bind (M.i_opt (fun _ => stage_true k.2.2.1 k.2.2.2) (fun h => by cases h)) M.i_pure)
  · have k := R.tok t ht
    unfold zbS
    exact M.i_grd (gA2 (by omega) (by omega)) (M.i_bind (in_true k.1.1 (by omega)) M.i_pure)
  refine M.i_bind (a := (.inr () : Int ⊕ Unit)) ?_ M.i_pure
  refine M.Out.ends ?_
  refine M.o_for fl.length (fun i (k : Nat) => k = i) ?_ ?_ rfl
  · rintro _ i hi rfl
    simp only [zbN]
    have hm : fl.getD i default ∈ fl := by rw [List.getD_eq_getElem?_getD, List.getElem?_eq_getElem hi, Option.getD_some]; exact List.getElem_mem hi
    obtain ⟨k1, k2, k3⟩ := R.fok _ hm
    have hs := R.si _ k1
    have hst : Wn.Stn dn (fl.getD i default).spring := .inr hs
    have hsh := Wn.P_short R.nx hst
    have hp : (zan dn tr sp tw dl dh fl (max 0 (fl.getD i default).spring)).Ends ((fl.getD i default).spring, dl, dh) := by
      rw [show max 0 (fl.getD i default).spring = (fl.getD i default).spring by omega]
      exact M.i_pure
    refine M.o_t (decide_eq_true (by omega)) (M.o_grdD (by omega) (M.o_bindE hp ?_))
    dsimp only
    refine M.o_bind (path_out (Q := fun x => x = (.inl ((Wn.P dn (fl.getD i default).spring).length : Int) : Int ⊕ Unit)) R.nx R.n12 hst (fun k (c : Int) => c = (k : Int)) rfl ?_ ?_ _ _ _ _ _ _) ?_
    · rintro k hk _ rfl
      simp only [zaD]
      exact M.o_grd (gA2 (by omega) (by omega)) (M.o_pure (by omega))
    · rintro _ rfl
      rfl
    · rintro ⟨x, q⟩ hq
      dsimp only at hq
      subst hq
      dsimp only
      refine M.o_bindE (contains_true k1) (M.o_f (by rw [k2]; simp) (M.o_bindE (every_int _ _ fun x hx => stage_true (k3 x hx).1 (k3 x hx).2) (M.o_f rfl (M.o_pure rfl))))
  · rintro _ rfl
    simp only [zbN]
    exact M.o_f (decide_eq_false (by omega)) (M.o_pure rfl)
theorem opened_ends (R : Wn.Rv dn tr sp tw dl dh fl) : (zap dn tr sp tw dl dh fl).Ends (.inr (dl, dh, 0)) := by
  unfold zap
  exact M.i_bind (check_ends R) (M.i_f rfl M.i_pure)
end Go.Proofs.Ytbaehghammbjdaa
namespace Go.Nm
namespace Wn
def stn (tw : List Town) (d : Dem) : Int := (tw.getD (Int.toNat d.town) default).station
def led (tw : List Town) (d : Dem) : Int := (tw.getD (Int.toNat d.town) default).lead
def meetB (dn : List Int) (tr : List Span) (tw : List Town) (dh : Int) (d : Dem) (s : Int) : Bool := decide (stn tw d ∈ P dn s) && decide (led tw d + dh <= sm (lo tr) (upto (P dn s) (stn tw d)))
/-- The stretch of a demand. -/
def Sd (dn : List Int) (tr : List Span) (tw : List Town) (dh : Int) (d : Dem) : List Int := (P dn d.spring).filter (meetB dn tr tw dh d)
def OkD (dn : List Int) (tw : List Town) (d : Dem) : Prop := (0 <= d.spring /\ d.spring < dn.length) /\ 0 <= d.town /\ d.town < tw.length
def lst (dn : List Int) (tr : List Span) (tw : List Town) (dh : Int) (d : Dem) : Int := (Sd dn tr tw dh d).getD ((Sd dn tr tw dh d).length - 1) 0
def deepD (dn : List Int) (tr : List Span) (tw : List Town) (dh : Int) (d : Dem) : Int := ((P dn (lst dn tr tw dh d)).length : Int)
variable {dn : List Int} {tr : List Span} {tw : List Town} {dh : Int}
theorem mem_Sd {d : Dem} {s : Int} : s ∈ Sd dn tr tw dh d ↔ s ∈ P dn d.spring /\ stn tw d ∈ P dn s /\ led tw d + dh <= sm (lo tr) (upto (P dn s) (stn tw d)) := by
  unfold Sd meetB
  rw [List.mem_filter, Bool.and_eq_true, decide_eq_true_eq, decide_eq_true_eq]
theorem lst_mem {d : Dem} (h : Sd dn tr tw dh d ≠ []) : lst dn tr tw dh d ∈ Sd dn tr tw dh d := by
  have : 0 < (Sd dn tr tw dh d).length := List.length_pos_iff.2 h
  unfold lst
  rw [getD_el _ (by omega)]
  exact List.getElem_mem _
theorem lst_max (hD : Dn dn) {d : Dem} (hs : Stn dn d.spring) {x : Int} (hx : x ∈ Sd dn tr tw dh d) : x <= lst dn tr tw dh d := by
  have hu : (Sd dn tr tw dh d).Pairwise (· < ·) := (P_up hD _ hs).sublist List.filter_sublist
  obtain ⟨i, hi, rfl⟩ := List.getElem_of_mem hx
  unfold lst
  rw [getD_el _ (by omega)]
  rcases Nat.lt_or_eq_of_le (show i <= (Sd dn tr tw dh d).length - 1 by omega) with g | g
  · exact Int.le_of_lt (List.pairwise_iff_getElem.1 hu i _ hi (by omega) g)
  · simp only [← g]
    exact Int.le_refl _
/-- Of two stations of a path the further one is on the path of the other. -/
theorem P_fwd (hD : Dn dn) {x a b : Int} (hx : Stn dn x) (ha : a ∈ P dn x) (hb : b ∈ P dn x) (hab : a <= b) : b ∈ P dn a := by
  have e := P_split hD hx ha
  have hu := P_up hD x hx
  rw [e] at hb hu
  rw [List.pairwise_append] at hu
  rcases List.mem_append.1 hb with h | h
  · have hA := P_mem hD x hx a ha
    have := hu.2.2 b h a (P_self hD hA.2.1 hA.2.2)
    omega
  · exact h
theorem P_len_lt (hD : Dn dn) {a b : Int} (ha : 0 <= a /\ a < dn.length) (hb : b ∈ P dn a) (hne : a ≠ b) : (P dn b).length < (P dn a).length := by
  have e := P_split hD (.inr ha) hb
  have : upto (P dn a) b ≠ [] := by
    rw [P_cons hD ha.1 ha.2]
    unfold upto
    rw [List.takeWhile_cons, if_pos (by simp [hne])]
    simp
  have := List.length_pos_iff.2 this
  have := congrArg List.length e
  rw [List.length_append] at this
  omega
/-- A stretch that leads down to a later demand's meets it. -/
theorem cross (hD : Dn dn) (hlo : ∀ x : Int, 0 <= x -> x < (dn.length : Int) -> 0 <= lo tr x /\ lo tr x <= 1000) {a b : Dem} (ha : OkD dn tw a) (hb : OkD dn tw b) (na : Sd dn tr tw dh a ≠ []) (nb : Sd dn tr tw dh b ≠ []) (hd : deepD dn tr tw dh b <= deepD dn tr tw dh a)
    {x : Int} (xa : x ∈ Sd dn tr tw dh a) (xb : x ∈ Sd dn tr tw dh b) : lst dn tr tw dh a ∈ Sd dn tr tw dh b := by
  have la := lst_mem na
  have lb := lst_mem nb
  have ma := lst_max hD (.inr ha.1) xa
  have mb := lst_max hD (.inr hb.1) xb
  obtain ⟨xa1, _, _⟩ := mem_Sd.1 xa
  obtain ⟨xb1, _, _⟩ := mem_Sd.1 xb
  obtain ⟨la1, _, _⟩ := mem_Sd.1 la
  obtain ⟨lb1, lb2, lb3⟩ := mem_Sd.1 lb
  have xr := P_mem hD _ (.inr ha.1) x xa1
  have hA : lst dn tr tw dh a ∈ P dn x := P_fwd hD (.inr ha.1) xa1 la1 ma
  have hB : lst dn tr tw dh b ∈ P dn x := P_fwd hD (.inr hb.1) xb1 lb1 mb
  have rA := P_mem hD _ (.inr xr.2) _ hA
  have rB := P_mem hD _ (.inr xr.2) _ hB
  have hAB : lst dn tr tw dh a <= lst dn tr tw dh b := by
    rcases Int.lt_or_le (lst dn tr tw dh b) (lst dn tr tw dh a) with g | g
    · have h1 := P_fwd hD (.inr xr.2) hB hA (by omega)
      have h2 := P_len_lt hD rB.2 h1 (by omega)
      unfold deepD at hd
      omega
    · exact g
  have hC := P_fwd hD (.inr xr.2) hA hB hAB
  obtain ⟨c1, c2⟩ := upto_trans hD (.inr rA.2) hC lb2
  refine mem_Sd.2 ⟨(upto_trans hD (.inr hb.1) xb1 hA).1, c1, ?_⟩
  rw [c2, sm_app]
  have := sm_bound (lo tr) (upto (P dn (lst dn tr tw dh a)) (lst dn tr tw dh b)) fun w hw => by
    have h1 := P_mem hD _ (.inr rA.2) w (upto_mem hw).1
    exact hlo w h1.2.1 h1.2.2
  omega
/-- Demands whose stretches have no station in common. -/
def Dj (dn : List Int) (tr : List Span) (tw : List Town) (dh : Int) (a b : Dem) : Prop := ∀ x ∈ Sd dn tr tw dh a, x ∉ Sd dn tr tw dh b
theorem dj_few : ∀ {l : List Dem} {W : List Int}, l.Pairwise (Dj dn tr tw dh) -> (∀ d ∈ l, ∃ s ∈ Sd dn tr tw dh d, s ∈ W) -> l.length <= W.length
  | [], _, _, _ => Nat.zero_le _
  | d :: l, W, h, hc => by
    rw [List.pairwise_cons] at h
    obtain ⟨s, s1, s2⟩ := hc d (by simp)
    have := dj_few (l := l) (W := W.erase s) h.2 fun e he => by
      obtain ⟨t, t1, t2⟩ := hc e (by simp [he])
      refine ⟨t, t1, (List.mem_erase_of_ne ?_).2 t2⟩
      rintro rfl
      exact h.1 e he _ s1 t1
    rw [List.length_erase_of_mem s2] at this
    have := List.length_pos_of_mem s2
    rw [List.length_cons]
    omega
/-- The fewest watches, and demands that prove it. -/
structure Few (dn : List Int) (tr : List Span) (tw : List Town) (dh : Int) (D : List Dem) (ws : List Int) (ap : List Dem) : Prop where
  up : ws.Pairwise (· < ·)
  bd : ∀ x ∈ ws, 0 <= x /\ x < (dn.length : Int)
  ln : ap.length = ws.length
  sub : ∀ a ∈ ap, a ∈ D
  mem : ∀ x, x ∈ ws ↔ ∃ a ∈ ap, x = lst dn tr tw dh a
  dj : ap.Pairwise (Dj dn tr tw dh)
  cov : ∀ d ∈ D, ∃ s ∈ Sd dn tr tw dh d, s ∈ ws
end Wn
end Go.Nm
namespace Go.Proofs.Ytbaehghammbjdaa
open Go Go.Nm
variable {dn : List Int} {tr : List Span} {sp : List Int} {tw : List Town} {dl dh : Int} {fl : List Flood}
theorem dem_town (R : Wn.Rv dn tr sp tw dl dh fl) {d : Dem} (hd : Wn.OkD dn tw d) : (0 <= Wn.stn tw d /\ Wn.stn tw d < (dn.length : Int)) /\ 0 <= Wn.led tw d /\ Wn.led tw d <= 1000 := by
  have h2 := hd.2
  have hm : tw.getD (Int.toNat d.town) default ∈ tw := by rw [getD_el tw (by omega)]; exact List.getElem_mem _
  have := R.tok _ hm
  unfold Wn.stn Wn.led
  omega
theorem lo_small (R : Wn.Rv dn tr sp tw dl dh fl) : ∀ x : Int, 0 <= x -> x < (dn.length : Int) -> 0 <= Wn.lo tr x /\ Wn.lo tr x <= 1000 := fun x h0 h1 => by
  have := R.hr (Int.toNat x) (by have := R.tl; omega)
  unfold Wn.lo
  omega
theorem stretch_ends (R : Wn.Rv dn tr sp tw dl dh fl) {d : Dem} (hd : Wn.OkD dn tw d) : (zaa dn tr sp tw dl dh fl d).Ends (Wn.Sd dn tr tw dh d) := by
  refine M.Out.ends ?_
  unfold zaa
  have hp : (zan dn tr sp tw dl dh fl d.spring).Ends (d.spring, dl, dh) := M.i_pure
  have hst : Wn.Stn dn d.spring := .inr hd.1
  have h12 := R.n12
  have hsh := Wn.P_short R.nx hst
  have ht := dem_town R hd
  have d0 := R.d0
  have d1 := R.d1
  have d2 := R.d2
  refine M.o_grd (gA2 hd.2.1 hd.2.2) (M.o_bindE hp ?_)
  dsimp only
  refine M.o_bind (path_out (Q := fun x => x = (.inl (Wn.Sd dn tr tw dh d) : List Int ⊕ Unit)) R.nx R.n12 hst (fun k (l : List Int) => l = ((Wn.P dn d.spring).take k).filter (Wn.meetB dn tr tw dh d)) (by simp) ?_ ?_ _ _ _ _ _ _) ?_
  · rintro k hk _ rfl
    have hm := Wn.P_mem R.nx _ hst _ (List.getElem_mem hk)
    have A := travels_ends R (.inr hm.2) (Wn.stn tw d)
    have hl : (((Wn.P dn d.spring).take k).filter (Wn.meetB dn tr tw dh d)).length <= 12 := by
      have := List.length_filter_le (Wn.meetB dn tr tw dh d) ((Wn.P dn d.spring).take k)
      rw [List.length_take] at this
      omega
    have hn : ((Wn.P dn d.spring).take (k + 1)).filter (Wn.meetB dn tr tw dh d) = ((Wn.P dn d.spring).take k).filter (Wn.meetB dn tr tw dh d) ++ if Wn.meetB dn tr tw dh d (Wn.P dn d.spring)[k] = true then [(Wn.P dn d.spring)[k]] else [] := by
      rw [List.take_succ_eq_append_getElem hk, List.filter_append]
      congr 1
      by_cases e : Wn.meetB dn tr tw dh d (Wn.P dn d.spring)[k] = true
      · rw [if_pos e, List.filter_cons_of_pos e]; rfl
      · rw [if_neg e, List.filter_cons_of_neg e]; rfl
    simp only [zav]
    rw [hn]
    unfold Wn.stn at A
    by_cases hy : (tw.getD (Int.toNat d.town) default).station ∈ Wn.P dn (Wn.P dn d.spring)[k]
    · rw [if_pos hy] at A
      refine M.o_bindE A ?_
      dsimp only
      refine M.o_grd (gOr2 (by unfold Wn.led at ht; omega) (by unfold Wn.led at ht; omega)) (M.o_if (fun hb => M.o_grdD (by simp; omega) (M.o_pure ?_)) (fun hb => M.o_pure ?_))
      · dsimp only
        rw [if_pos]
        unfold Wn.meetB Wn.stn Wn.led
        rw [decide_eq_true hy]
        exact hb
      · dsimp only
        rw [if_neg, List.append_nil]
        unfold Wn.meetB Wn.stn Wn.led
        rw [decide_eq_true hy]
        rw [hb]
        exact Bool.false_ne_true
    · rw [if_neg hy] at A
      refine M.o_bindE A ?_
      dsimp only
      refine M.o_grd rfl (M.o_f rfl (M.o_pure ?_))
      dsimp only
      rw [if_neg, List.append_nil]
      unfold Wn.meetB Wn.stn
      rw [decide_eq_false hy]
      exact Bool.false_ne_true
  · rintro _ rfl
    rw [List.take_length]
    rfl
  · rintro ⟨x, q⟩ hq
    dsimp only at hq
    subst hq
    exact M.o_pure rfl
theorem demands_is (R : Wn.Rv dn tr sp tw dl dh fl) : ∃ D, (zal dn tr sp tw dl dh fl).Ends D /\ D.length <= 64 /\ ∀ d, d ∈ D ↔ d.spring ∈ sp /\ (0 <= d.town /\ d.town < (tw.length : Int)) /\ Wn.stn tw d ∈ Wn.P dn d.spring := by
  have t8 := R.t8
  have s8 := R.s8
  suffices h : (zal dn tr sp tw dl dh fl).Out (fun l => l.length <= 64 /\ ∀ d, d ∈ l ↔ d.spring ∈ sp /\ (0 <= d.town /\ d.town < (tw.length : Int)) /\ Wn.stn tw d ∈ Wn.P dn d.spring) by
    obtain ⟨D, h1, h2⟩ := h
    exact ⟨D, h1, h2⟩
  unfold zal
  refine M.o_bind (P := fun y => y.2.length <= 64 /\ ∀ d, d ∈ y.2 ↔ d.spring ∈ sp /\ (0 <= d.town /\ d.town < (tw.length : Int)) /\ Wn.stn tw d ∈ Wn.P dn d.spring) ?_ (fun y hy => M.o_pure hy)
  refine M.o_for sp.length (fun i (t : Nat × List Dem) => t.1 = i /\ t.2.length <= 8 * i /\ ∀ d, d ∈ t.2 ↔ d.spring ∈ sp.take i /\ (0 <= d.town /\ d.town < (tw.length : Int)) /\ Wn.stn tw d ∈ Wn.P dn d.spring) ?_ ?_ ⟨rfl, by simp, fun d => by simp⟩
  · rintro _ ⟨i, l⟩ hi ⟨rfl, h1, h2⟩
    dsimp only at hi h1 h2
    simp only [zbJ]
    have hsp := R.si (sp.getD i 0) (by rw [getD_el sp hi]; exact List.getElem_mem hi)
    refine M.o_t (decide_eq_true (by omega)) (M.o_grdD (by omega) (M.o_bind (P := fun y => y.2.length <= 8 * i + 8 /\ ∀ d, d ∈ y.2 ↔ d ∈ l ∨ d.spring = sp.getD i 0 /\ (0 <= d.town /\ d.town < (tw.length : Int)) /\ Wn.stn tw d ∈ Wn.P dn d.spring) ?_ (fun y hy => M.o_pure ⟨rfl, by dsimp only; omega, fun d => ?_⟩)))
    · refine M.o_for tw.length (fun k (t : Nat × List Dem) => t.1 = k /\ t.2.length <= 8 * i + k /\ ∀ d, d ∈ t.2 ↔ d ∈ l ∨ d.spring = sp.getD i 0 /\ (0 <= d.town /\ d.town < (k : Int)) /\ Wn.stn tw d ∈ Wn.P dn d.spring) ?_ ?_ ⟨rfl, h1, fun d => ⟨fun h => .inl h, fun h => h.resolve_right fun h => by omega⟩⟩
      · rintro _ ⟨k, l4⟩ hk ⟨rfl, g1, g2⟩
        dsimp only at hk g1 g2
        simp only [zbj]
        refine M.o_t (decide_eq_true (by omega)) (M.o_grdD (by omega) (M.o_bindE (travels_ends R (.inr hsp) _) ?_))
        have ek : Wn.stn tw ⟨sp.getD i 0, (k : Int)⟩ = (tw.getD k default).station := rfl
        have key : ∀ d : Dem, d.spring = sp.getD i 0 -> d.town = (k : Int) -> d = ⟨sp.getD i 0, (k : Int)⟩ := fun d e1 e2 => by
          cases d
          dsimp only at e1 e2
          rw [e1, e2]
        by_cases hy : (tw.getD k default).station ∈ Wn.P dn (sp.getD i 0)
        · rw [if_pos hy]
          dsimp only
          refine M.o_t rfl (M.o_grdD (by simp; omega) (M.o_pure ⟨rfl, by dsimp only; simp; omega, fun d => ?_⟩))
          dsimp only
          rw [List.mem_append, List.mem_singleton, g2 d]
          constructor
          · rintro ((h | h) | rfl)
            · exact .inl h
            · exact .inr ⟨h.1, by omega, h.2.2⟩
            · exact .inr ⟨rfl, by dsimp only; omega, by rw [ek]; exact hy⟩
          · rintro (h | ⟨e1, e2, e3⟩)
            · exact .inl (.inl h)
            · by_cases c : d.town = (k : Int)
              · exact .inr (key d e1 c)
              · exact .inl (.inr ⟨e1, by omega, e3⟩)
        · rw [if_neg hy]
          dsimp only
          refine M.o_f rfl (M.o_pure ⟨rfl, by dsimp only; omega, fun d => ?_⟩)
          dsimp only
          rw [g2 d]
          constructor
          · rintro (h | h)
            · exact .inl h
            · exact .inr ⟨h.1, by omega, h.2.2⟩
          · rintro (h | ⟨e1, e2, e3⟩)
            · exact .inl h
            · by_cases c : d.town = (k : Int)
              · rw [key d e1 c] at e3
                exact absurd e3 hy
              · exact .inr ⟨e1, by omega, e3⟩
      · rintro ⟨k, l4⟩ ⟨e, g1, g2⟩
        dsimp only at e g1 g2
        subst e
        simp only [zbj]
        exact M.o_f (decide_eq_false (by omega)) (M.o_pure ⟨by dsimp only; omega, g2⟩)
    · dsimp only
      rw [hy.2 d, h2 d, List.take_succ_eq_append_getElem hi, List.mem_append, List.mem_singleton, ← getD_el sp hi 0]
      constructor
      · rintro (h | h)
        · exact ⟨.inl h.1, h.2⟩
        · exact ⟨.inr h.1, h.2⟩
      · rintro ⟨h | h, h'⟩
        · exact .inl ⟨h, h'⟩
        · exact .inr ⟨h, h'⟩
  · rintro ⟨i, l⟩ ⟨e, h1, h2⟩
    dsimp only at e h1 h2
    subst e
    rw [List.take_length] at h2
    simp only [zbJ]
    exact M.o_f (decide_eq_false (by omega)) (M.o_pure ⟨by dsimp only; omega, h2⟩)
theorem deep_ends (R : Wn.Rv dn tr sp tw dl dh fl) {d : Dem} (hd : Wn.OkD dn tw d) (hn : Wn.Sd dn tr tw dh d ≠ []) : (zaU d dn tr sp tw dl dh fl dn tr sp tw dl dh fl).Ends (Wn.deepD dn tr tw dh d) := by
  refine M.Out.ends ?_
  unfold zaU
  have hlen : 0 < (Wn.Sd dn tr tw dh d).length := List.length_pos_iff.2 hn
  have e : (Wn.Sd dn tr tw dh d).getD (Int.toNat (((Wn.Sd dn tr tw dh d).length : Int) - 1)) 0 = Wn.lst dn tr tw dh d := by
    unfold Wn.lst
    congr 1
    omega
  have hl := Wn.lst_mem hn
  have hm := Wn.P_mem R.nx _ (.inr hd.1) _ (Wn.mem_Sd.1 hl).1
  have hst : Wn.Stn dn (Wn.lst dn tr tw dh d) := .inr hm.2
  have hsh := Wn.P_short R.nx hst
  have h12 := R.n12
  have hp : (zan dn tr sp tw dl dh fl (Wn.lst dn tr tw dh d)).Ends (Wn.lst dn tr tw dh d, dl, dh) := M.i_pure
  refine M.o_bindE (stretch_ends R hd) (M.o_grd (gA2 (by omega) (by omega)) ?_)
  rw [e]
  refine M.o_bindE hp ?_
  dsimp only
  refine M.o_bind (path_out (Q := fun x => x = (.inl ((Wn.P dn (Wn.lst dn tr tw dh d)).length : Int) : Int ⊕ Unit)) R.nx R.n12 hst (fun k (c : Int) => c = (k : Int)) rfl ?_ ?_ _ _ _ _ _ _) ?_
  · rintro k hk _ rfl
    simp only [zaw]
    exact M.o_grd (gA2 (by omega) (by omega)) (M.o_pure (by omega))
  · rintro _ rfl
    rfl
  · rintro ⟨x, q⟩ hq
    dsimp only at hq
    subst hq
    exact M.o_pure rfl
theorem comp_ends (a b : Int) : (m_cmp_Compare_int a b).Ends (cv a b) := by
  unfold m_cmp_Compare_int m_cmp_isNaN_int cv
  refine M.i_bind M.i_pure (M.i_bind M.i_pure (M.i_f (by simp) (M.i_f (by simp) ?_)))
  by_cases h : a < b
  · rw [if_pos h]
    exact M.i_t (decide_eq_true h) M.i_pure
  · rw [if_neg h]
    refine M.i_f (decide_eq_false h) ?_
    by_cases h2 : b < a
    · rw [if_pos h2]
      exact M.i_t (decide_eq_true h2) M.i_pure
    · rw [if_neg h2]
      exact M.i_f (decide_eq_false h2) M.i_pure
theorem cmp_ends (R : Wn.Rv dn tr sp tw dl dh fl) (x y : Dem) (hx : Wn.OkD dn tw x /\ Wn.Sd dn tr tw dh x ≠ []) (hy : Wn.OkD dn tw y /\ Wn.Sd dn tr tw dh y ≠ []) :
    (zar x y dn tr sp tw dl dh fl dn tr sp tw dl dh fl).Ends (cv (Wn.deepD dn tr tw dh y) (Wn.deepD dn tr tw dh x)) := by
  unfold zar
  exact M.i_bind (deep_ends R hy.1 hy.2) (M.i_bind (deep_ends R hx.1 hx.2) (M.i_bind (comp_ends _ _) M.i_pure))
end Go.Proofs.Ytbaehghammbjdaa
namespace Go.Nm
namespace Wn
variable {m : Nat} {q q' : Nat -> Bool}
end Wn
end Go.Nm
namespace Go.Proofs.Ytbaehghammbjdaa
open Go Go.Nm
variable {dn : List Int} {tr : List Span} {sp : List Int} {tw : List Town} {dl dh : Int} {fl : List Flood} {ws : List Int}
theorem posted_iff (R : Wn.Rv dn tr sp tw dl dh fl) (hu : ws.Pairwise (· < ·)) (hb : ∀ x ∈ ws, 0 <= x /\ x < (dn.length : Int)) :
    (zaM dn tr sp tw dl dh fl ws).Out (fun y => ∃ ar : List Bool, y = .inr (dl, dh, ar, 0) /\ ∀ j : Nat, ar.getD j false = true ↔ (j : Int) ∈ ws) := by
  have h12 := R.n12
  unfold zaM
  refine M.o_bindE (opened_ends R) ?_
  dsimp only
  refine M.o_bindE (M.i_opt (fun _ => rising_true (by omega) hu hb) (fun h => by cases h)) (M.o_f rfl ?_)
  unfold zbt
  refine M.o_f rfl (M.o_bind (P := fun ar : List Bool => ∀ j : Nat, ar.getD j false = true ↔ (j : Int) ∈ ws) ?_ fun ar h => M.o_pure ⟨ar, rfl, h⟩)
  refine M.o_for ws.length (fun i (t : List Bool × Nat) => t.2 = i /\ t.1.length = 12 /\ ∀ j : Nat, t.1.getD j false = true ↔ (j : Int) ∈ ws.take i) ?_ ?_ ⟨rfl, by simp, fun j => ?_⟩
  · rintro _ ⟨ar, i⟩ hi ⟨rfl, h0, h⟩
    dsimp only at hi h0 h
    simp only [zbw]
    have hm : ws.getD i 0 ∈ ws := by rw [getD_el ws hi]; exact List.getElem_mem hi
    have hx := hb _ hm
    refine M.o_t (decide_eq_true (by omega)) (M.o_grdD (by omega) (M.o_grd (gA2 (by omega) (by omega)) (M.o_pure ⟨rfl, by dsimp only; rw [List.length_set, h0], fun j => ?_⟩)))
    dsimp only
    rw [List.take_succ_eq_append_getElem hi, List.mem_append, List.mem_singleton, ← getD_el ws hi 0, gset _ _ _ _ _ (by omega)]
    by_cases e : j = Int.toNat (ws.getD i 0)
    · rw [if_pos e]
      exact ⟨fun _ => .inr (by omega), fun _ => rfl⟩
    · rw [if_neg e, h j]
      exact ⟨fun g => .inl g, fun g => by
        rcases g with g | g
        · exact g
        · omega⟩
  · rintro ⟨ar, i⟩ ⟨e, _, h⟩
    dsimp only at e h
    subst e
    rw [List.take_length] at h
    simp only [zbw]
    exact M.o_f (decide_eq_false (by omega)) (M.o_pure h)
  · dsimp only
    rw [List.getD_eq_getElem?_getD, List.getElem?_replicate]
    constructor
    · intro hj
      split at hj <;> cases hj
    · intro hj
      simp at hj
theorem stretch_in (R : Wn.Rv dn tr sp tw dl dh fl) {d : Dem} (hd : Wn.OkD dn tw d) : ∀ s ∈ Wn.Sd dn tr tw dh d, 0 <= s /\ s < (dn.length : Int) := fun s hs => (Wn.P_mem R.nx _ (.inr hd.1) s (Wn.mem_Sd.1 hs).1).2
theorem every_68 (R : Wn.Rv dn tr sp tw dl dh fl) {D : List Dem} (ho : ∀ d ∈ D, Wn.OkD dn tw d) : (zb2 D dn tr sp tw dl dh fl).Ends (D.all fun d => decide (0 < ((Wn.Sd dn tr tw dh d).length : Int))) := by
  refine M.Out.ends ?_
  unfold zb2 zcC zcq
  refine M.o_bind (P := fun b => b = !D.all fun d => decide (0 < ((Wn.Sd dn tr tw dh d).length : Int))) (M.o_bind (P := fun r => decide (0 <= r) = !D.all fun d => decide (0 < ((Wn.Sd dn tr tw dh d).length : Int))) (M.o_bind (P := fun r => match r with | .inl r => (0 : Int) <= r /\ (D.all fun d => decide (0 < ((Wn.Sd dn tr tw dh d).length : Int))) = false | .inr (_ : Unit) => (D.all fun d => decide (0 < ((Wn.Sd dn tr tw dh d).length : Int))) = true) ?_ ?_) (fun r h => M.o_pure h)) (fun r h => M.o_pure (by rw [h]; simp))
  · refine M.o_for D.length (fun i (k : Nat) => k = i /\ ∀ j, j < i -> decide (0 < ((Wn.Sd dn tr tw dh (D.getD j default)).length : Int)) = true) ?_ ?_ ⟨rfl, fun j hj => by omega⟩
    · rintro _ i hi ⟨rfl, hp⟩
      simp only [zbu]
      have hm : D.getD i default ∈ D := by rw [getD_el D hi]; exact List.getElem_mem hi
      refine M.o_t (decide_eq_true (by omega)) (M.o_grdD (by omega) (M.o_bindE (a := !decide (0 < ((Wn.Sd dn tr tw dh (D.getD i default)).length : Int))) ?_ (M.o_if (fun hb => M.o_pure ⟨by omega, ?_⟩) (fun hb => M.o_pure ⟨rfl, fun j hj => ?_⟩))))
      · unfold zcI zcu
        exact M.i_bind (M.i_bind (stretch_ends R (ho _ hm)) M.i_pure) M.i_pure
      · rw [List.all_eq_false]
        exact ⟨_, hm, by simpa using hb⟩
      · rcases Nat.lt_or_eq_of_le (Nat.le_of_lt_succ hj) with e | e
        · exact hp j e
        · subst e
          simpa using hb
    · rintro _ ⟨rfl, hp⟩
      simp only [zbu]
      refine M.o_f (decide_eq_false (by omega)) (M.o_pure ?_)
      rw [List.all_eq_true]
      intro x hx
      obtain ⟨i, hi, e⟩ := mem_getD hx default
      rw [← e]
      exact hp i hi
  · rintro (r | r) h
    · exact M.o_pure (by rw [h.2, decide_eq_true h.1]; rfl)
    · exact M.o_pure (by dsimp only at h; rw [h]; rfl)
theorem few_b2 {ar : List Bool} {r4 : List Int} (hr : ∀ s ∈ r4, 0 <= s /\ s < 12) : (M.iter (zaO ar r4) 0).Out (fun x => match x with | .inl (_ : Unit) => ∃ s ∈ r4, ar.getD (Int.toNat s) false = true | .inr (_ : Unit) => ∀ s ∈ r4, ar.getD (Int.toNat s) false = false) := by
  refine M.o_for r4.length (fun i (k : Nat) => k = i /\ ∀ j, j < i -> ar.getD (Int.toNat (r4.getD j 0)) false = false) ?_ ?_ ⟨rfl, fun j hj => by omega⟩
  · rintro _ i hi ⟨rfl, hp⟩
    simp only [zaO]
    have hm : r4.getD i 0 ∈ r4 := by rw [getD_el r4 hi]; exact List.getElem_mem hi
    have := hr _ hm
    refine M.o_t (decide_eq_true (by omega)) (M.o_grdD (by omega) (M.o_grd (gA2 (by omega) (by omega)) (M.o_if (fun hb => M.o_pure ⟨_, hm, hb⟩) (fun hb => M.o_pure ⟨rfl, fun j hj => ?_⟩))))
    rcases Nat.lt_or_eq_of_le (Nat.le_of_lt_succ hj) with e | e
    · exact hp j e
    · subst e
      exact hb
  · rintro _ ⟨rfl, hp⟩
    simp only [zaO]
    refine M.o_f (decide_eq_false (by omega)) (M.o_pure fun s hs => ?_)
    obtain ⟨j, hj, rfl⟩ := mem_getD hs 0
    exact hp j hj
/-- The choice of watches. -/
theorem few_b3 (R : Wn.Rv dn tr sp tw dl dh fl) {X : List Dem} (hX : X.length <= 64) (ho : ∀ d ∈ X, Wn.OkD dn tw d /\ Wn.Sd dn tr tw dh d ≠ []) (hs : Srt (Wn.deepD dn tr tw dh) X 0 X.length) :
    (M.iter (zaI dn tr sp tw dl dh fl X) (0, List.replicate 12 false, [], [])).Out (fun y => y.2.2.1 = y.2.2.2.1.map (Wn.lst dn tr tw dh) /\ y.2.2.2.1.length <= 64 /\ (∀ a ∈ y.2.2.2.1, a ∈ X) /\ y.2.2.2.1.Pairwise (Wn.Dj dn tr tw dh) /\ ∀ d ∈ X, ∃ s ∈ Wn.Sd dn tr tw dh d, s ∈ y.2.2.1) := by
  have h12 := R.n12
  refine M.o_for X.length (fun i (t : Nat × List Bool × List Int × List Dem) => t.1 = i /\ (t.2.1.length = 12 /\ ∀ j : Nat, t.2.1.getD j false = true ↔ (j : Int) ∈ t.2.2.1) /\ t.2.2.1 = t.2.2.2.map (Wn.lst dn tr tw dh) /\ t.2.2.2.length <= i /\ (∀ a ∈ t.2.2.2, ∃ k, k < i /\ X.getD k default = a) /\ t.2.2.2.Pairwise (Wn.Dj dn tr tw dh) /\ ∀ k, k < i -> ∃ s ∈ Wn.Sd dn tr tw dh (X.getD k default), s ∈ t.2.2.1) ?_ ?_ ⟨rfl, ⟨by simp, fun j => ?_⟩, rfl, Nat.le_refl _, fun a ha => (by cases ha), List.Pairwise.nil, fun k hk => by omega⟩
  · rintro _ ⟨i, ar, l, l2⟩ hi ⟨rfl, ⟨a1, a2⟩, e, h1, h2, h3, h4⟩
    dsimp only at hi a1 a2 e h1 h2 h3 h4
    simp only [zaI]
    have hm : X.getD i default ∈ X := by rw [getD_el X hi]; exact List.getElem_mem hi
    have hok := ho _ hm
    have hin := stretch_in R hok.1
    have hlen : 0 < (Wn.Sd dn tr tw dh (X.getD i default)).length := List.length_pos_iff.2 hok.2
    have hl := Wn.lst_mem hok.2
    have el : (Wn.Sd dn tr tw dh (X.getD i default)).getD (Int.toNat (((Wn.Sd dn tr tw dh (X.getD i default)).length : Int) - 1)) 0 = Wn.lst dn tr tw dh (X.getD i default) := by
      unfold Wn.lst
      congr 1
      omega
    have hll : l.length <= i := by rw [e, List.length_map]; exact h1
    refine M.o_t (decide_eq_true (by omega)) (M.o_grdD (by omega) (M.o_bindE (stretch_ends R hok.1) (M.o_bind (few_b2 fun s hs => by have := hin s hs; omega) ?_)))
    rintro (u | u) hu
    · obtain ⟨s, s1, s2⟩ := hu
      refine M.o_pure ⟨rfl, ⟨a1, a2⟩, e, by dsimp only; omega, fun a ha => ?_, h3, fun k hk => ?_⟩
      · obtain ⟨k, k1, k2⟩ := h2 a ha
        exact ⟨k, by omega, k2⟩
      · rcases Nat.lt_or_eq_of_le (Nat.le_of_lt_succ hk) with g | g
        · exact h4 k g
        · subst g
          refine ⟨s, s1, ?_⟩
          have := (a2 _).1 s2
          rwa [Int.toNat_of_nonneg (hin s s1).1] at this
    · dsimp only at hu ⊢
      have hlr := hin _ hl
      have hfree : ∀ s ∈ Wn.Sd dn tr tw dh (X.getD i default), s ∉ l := fun s hs hsl => by
        have h5 := hu s hs
        have := (a2 (Int.toNat s)).2 (by rw [Int.toNat_of_nonneg (hin s hs).1]; exact hsl)
        rw [h5] at this
        cases this
      rw [el]
      refine M.o_grd (gA2 (by omega) (by omega)) (M.o_grd (gA2 (by omega) (by omega)) (M.o_grdD (by simp; omega) (M.o_grdD (by simp; omega) (M.o_pure ⟨rfl, ⟨by dsimp only; rw [List.length_set, a1], fun j => ?_⟩, ?_, by dsimp only; simp; omega, fun a ha => ?_, ?_, fun k hk => ?_⟩))))
      · dsimp only
        rw [gset _ _ _ _ _ (by omega), List.mem_append, List.mem_singleton]
        by_cases c : j = Int.toNat (Wn.lst dn tr tw dh (X.getD i default))
        · rw [if_pos c]
          exact ⟨fun _ => .inr (by omega), fun _ => rfl⟩
        · rw [if_neg c, a2 j]
          exact ⟨fun g => .inl g, fun g => g.resolve_right (by omega)⟩
      · dsimp only
        rw [List.map_append, e]
        rfl
      · rcases List.mem_append.1 ha with ha | ha
        · obtain ⟨k, k1, k2⟩ := h2 a ha
          exact ⟨k, by omega, k2⟩
        · exact ⟨i, Nat.lt_succ_self _, (List.mem_singleton.1 ha).symm⟩
      · dsimp only
        rw [List.pairwise_append]
        refine ⟨h3, List.pairwise_singleton _ _, fun a ha b hb => ?_⟩
        rw [List.mem_singleton] at hb
        subst hb
        intro x xa xb
        obtain ⟨k, k1, k2⟩ := h2 a ha
        have ham : a ∈ X := by rw [← k2, getD_el X (by omega)]; exact List.getElem_mem _
        have hoa := ho a ham
        have hdeep : Wn.deepD dn tr tw dh (X.getD i default) <= Wn.deepD dn tr tw dh a := by
          have := hs (k : Int) (i : Int) (by omega) (by omega) (by omega)
          unfold G at this
          rw [show Int.toNat (k : Int) = k from rfl, show Int.toNat (i : Int) = i from rfl, k2] at this
          exact this
        have hc := Wn.cross R.nx (lo_small R) hoa.1 hok.1 hoa.2 hok.2 hdeep xa xb
        refine hfree _ hc ?_
        rw [e]
        exact List.mem_map.2 ⟨a, ha, rfl⟩
      · dsimp only
        rcases Nat.lt_or_eq_of_le (Nat.le_of_lt_succ hk) with g | g
        · obtain ⟨s, s1, s2⟩ := h4 k g
          exact ⟨s, s1, List.mem_append_left _ s2⟩
        · subst g
          exact ⟨_, hl, List.mem_append_right _ (List.mem_singleton.2 rfl)⟩
  · rintro ⟨i, ar, l, l2⟩ ⟨e0, ⟨a1, a2⟩, e, h1, h2, h3, h4⟩
    dsimp only at e0 a1 a2 e h1 h2 h3 h4
    subst e0
    simp only [zaI]
    refine M.o_f (decide_eq_false (by omega)) (M.o_pure ⟨e, by dsimp only; omega, fun a ha => ?_, h3, fun d hd => ?_⟩)
    · obtain ⟨k, k1, k2⟩ := h2 a ha
      rw [← k2, getD_el X k1]
      exact List.getElem_mem _
    · obtain ⟨k, hk, e2⟩ := mem_getD hd default
      obtain ⟨s, s1, s2⟩ := h4 k hk
      rw [e2] at s1
      exact ⟨s, s1, s2⟩
  · dsimp only
    rw [List.getD_eq_getElem?_getD, List.getElem?_replicate]
    constructor
    · intro hj
      split at hj <;> cases hj
    · intro hj
      cases hj
theorem fewest_is (R : Wn.Rv dn tr sp tw dl dh fl) {D : List Dem} (hD : (zal dn tr sp tw dl dh fl).Ends D) (hl : D.length <= 64) (ho : ∀ d ∈ D, Wn.OkD dn tw d /\ Wn.Sd dn tr tw dh d ≠ []) :
    ∃ ws ap, (zaz dn tr sp tw dl dh fl).Ends (ws, ap, true) /\ Wn.Few dn tr tw dh D ws ap := by
  suffices h : (zaz dn tr sp tw dl dh fl).Out (fun y => y.2.2 = true /\ Wn.Few dn tr tw dh D y.1 y.2.1) by
    obtain ⟨⟨ws, ap, b⟩, h1, h2, h3⟩ := h
    dsimp only at h2 h3
    subst h2
    exact ⟨ws, ap, h1, h3⟩
  unfold zaz
  have hall : (D.all fun d => decide (0 < ((Wn.Sd dn tr tw dh d).length : Int))) = true := by
    rw [List.all_eq_true]
    intro d hd
    have := List.length_pos_iff.2 (ho d hd).2
    exact decide_eq_true (by omega)
  have hev := every_68 R (fun d hd => (ho d hd).1)
  rw [hall] at hev
  refine M.o_bindE hD (M.o_bindE hev (M.o_f rfl (M.o_bind (sort_out (ok := fun d => Wn.OkD dn tw d /\ Wn.Sd dn tr tw dh d ≠ []) (dp := Wn.deepD dn tr tw dh) (cmp_ends R) (by omega) ho) ?_)))
  rintro X ⟨hp, hs⟩
  have hoX : ∀ d ∈ X, Wn.OkD dn tw d /\ Wn.Sd dn tr tw dh d ≠ [] := fun d hd => ho d (hp.mem_iff.1 hd)
  have hlen := hp.length_eq
  refine M.o_bind (few_b3 R (by omega) hoX (by rw [hlen]; exact hs)) ?_
  rintro ⟨x1, x2, l, ap, ar⟩ ⟨e, h1, h2, h3, h4⟩
  dsimp only at e h1 h2 h3 h4 ⊢
  subst e
  have hnd : (ap.map (Wn.lst dn tr tw dh)).Nodup := by
    unfold List.Nodup
    rw [List.pairwise_map, List.pairwise_iff_getElem]
    intro i j hi hj hij he
    have := List.pairwise_iff_getElem.1 h3 i j hi hj hij
    have a1 := Wn.lst_mem (hoX _ (h2 _ (List.getElem_mem hi))).2
    have a2 := Wn.lst_mem (hoX _ (h2 _ (List.getElem_mem hj))).2
    rw [← he] at a2
    exact this _ a1 a2
  have hmem : ∀ x, x ∈ isort (ap.map (Wn.lst dn tr tw dh)) ↔ ∃ a ∈ ap, x = Wn.lst dn tr tw dh a := fun x => by
    rw [(isort_perm _).mem_iff, List.mem_map]
    exact ⟨fun ⟨a, h, e⟩ => ⟨a, h, e.symm⟩, fun ⟨a, h, e⟩ => ⟨a, h, e.symm⟩⟩
  refine M.o_grdD (by rw [List.length_map]; omega) (M.o_pure ⟨rfl, ?_⟩)
  refine ⟨?_, fun x hx => ?_, ?_, fun a ha => hp.mem_iff.1 (h2 a ha), hmem, h3, fun d hd => ?_⟩
  · have n1 : (isort (ap.map (Wn.lst dn tr tw dh))).Nodup := (isort_perm _).nodup_iff.2 hnd
    exact ((isort_asc _).and n1).imp fun h => by omega
  · obtain ⟨a, ha, rfl⟩ := (hmem x).1 hx
    have := hoX _ (h2 a ha)
    exact stretch_in R this.1 _ (Wn.lst_mem this.2)
  · dsimp only
    rw [(isort_perm _).length_eq, List.length_map]
  · obtain ⟨s, s1, s2⟩ := h4 d (hp.mem_iff.2 hd)
    exact ⟨s, s1, (isort_perm _).mem_iff.2 s2⟩
end Go.Proofs.Ytbaehghammbjdaa
section
set_option maxRecDepth 100000
set_option maxHeartbeats 16000000
namespace Go.Proofs.Ytbaehghammbjdaa
open Go Go.Nm
def zci (bytes : List UInt8) : M (Int × Int) :=
  M.pure (0, 0)
theorem zcN {R : List Chunk} {ab : Cells} {aa : Value} (bytes : List UInt8) (ai : Reads R ab) (ag : Sl ab aa bytes) {r : (Int × Int)} (hM : (zci bytes).Ends r) (w : World) (H : St w w [] R) : Ret Try.prog 9 #[aa] w fun v w' => ∃ (y0 : Int) (y1 : Int) (ac : Nat), (y0, y1) = r /\ v = Pq ac /\ St w w' [cBlk ac [aa, I y0, I y1] 71] R := by
 refine ret_of_W Try.func9 rfl rfl rfl ?_
 refine W.seq ?_
 refine W.region rfl ?_
 refine zA (.pointer none) rfl ?_
 refine s_nil ?_
 refine W.seq ?_
 refine W.region rfl ?_
 refine zM aa rfl ?_
 refine s_val (x_bld (ps := [(0, aa)]) (zs := [.slice none 0 0, I 0, I 0]) (L' := [aa, I 0, I 0]) rfl Try.underlying71 Al71 rfl (Bd71 Try.underlying71) (.cons (cs := [aa]) (Sl.cells ag) rfl rfl rfl rfl <| .nil)) ?_
 refine t_box (v := .agg #[aa, I 0, I 0]) (cs := [aa, I 0, I 0]) H rfl rfl ?_
 intro ae aj H
 refine zA (Pq ae) rfl ?_
 refine s_nil ?_
 refine W.ret ?_
 have ah := M.e_pure hM
 exact ⟨_, resE_tmp rfl, ⟨0, 0, ae, ah, rfl, H⟩⟩

def zcj (s_used : Int) (s_mix : Int) (n : Int) (b : Int) : M (Int × Int × Int) :=
  M.grd (decide ((-9223372036854775808 : Int) <= (5 * s_mix)) && decide ((5 * s_mix) <= (9223372036854775807 : Int))) <|
  M.grd (decide ((-9223372036854775808 : Int) <= ((5 * s_mix) + b)) && decide (((5 * s_mix) + b) <= (9223372036854775807 : Int))) <|
  M.grd (decide ((-9223372036854775808 : Int) <= (((5 * s_mix) + b) + 1)) && decide ((((5 * s_mix) + b) + 1) <= (9223372036854775807 : Int))) <|
  M.grd (decide ((0 : Int) <= (((5 * s_mix) + b) + 1)) && decide ((0 : Int) < 251)) <|
  M.grd (decide ((-9223372036854775808 : Int) <= (s_used + 1)) && decide ((s_used + 1) <= (9223372036854775807 : Int))) <|
  bif decide (256 < n) then (
  M.grd (decide ((-9223372036854775808 : Int) <= (256 * b)) && decide ((256 * b) <= (9223372036854775807 : Int))) <|
  M.grd (decide ((-9223372036854775808 : Int) <= ((256 * b) + ((((5 * s_mix) + b) + 1) % 251))) && decide (((256 * b) + ((((5 * s_mix) + b) + 1) % 251)) <= (9223372036854775807 : Int))) <|
  M.grd (decide ((0 : Int) <= ((256 * b) + ((((5 * s_mix) + b) + 1) % 251))) && decide ((0 : Int) < n)) <|
  M.pure ((((256 * b) + ((((5 * s_mix) + b) + 1) % 251)) % n), (s_used + 1), ((((5 * s_mix) + b) + 1) % 251)))
  else (
  M.grd (decide ((0 : Int) <= b) && decide ((0 : Int) < n)) <|
  M.pure ((b % n), (s_used + 1), ((((5 * s_mix) + b) + 1) % 251)))
def zac (s_bytes : List UInt8) (s_used : Int) (s_mix : Int) (n : Int) : M (Int × Int × Int) :=
  bif ((decide (n < 2)) || ((s_bytes.length : Int) == 0)) then (
  M.pure (0, s_used, s_mix))
  else (
  M.grd (decide ((0 : Int) <= s_used) && decide ((0 : Int) < (s_bytes.length : Int))) <|
  M.grd (decide ((0 : Int) <= (s_used % (s_bytes.length : Int))) && decide ((s_used % (s_bytes.length : Int)) < (s_bytes.length : Int))) <|
  M.grd (decide ((0 : Int) <= ((s_bytes.getD (Int.toNat (s_used % (s_bytes.length : Int))) 0).toNat : Int)) && decide (((s_bytes.getD (Int.toNat (s_used % (s_bytes.length : Int))) 0).toNat : Int) < (256 : Int))) <|
  bif decide ((s_bytes.length : Int) <= s_used) then (
  M.grd (decide ((-9223372036854775808 : Int) <= (11 * s_mix)) && decide ((11 * s_mix) <= (9223372036854775807 : Int))) <|
  M.grd (decide (0 <= s_used) && decide (s_used <= (9223372036854775807 : Int)) && decide ((0 : Int) < (s_bytes.length : Int))) <|
  M.grd (decide ((-9223372036854775808 : Int) <= ((11 * s_mix) + (s_used / (s_bytes.length : Int)))) && decide (((11 * s_mix) + (s_used / (s_bytes.length : Int))) <= (9223372036854775807 : Int))) <|
  M.grd (decide ((-9223372036854775808 : Int) <= (((s_bytes.getD (Int.toNat (s_used % (s_bytes.length : Int))) 0).toNat : Int) + ((11 * s_mix) + (s_used / (s_bytes.length : Int))))) && decide ((((s_bytes.getD (Int.toNat (s_used % (s_bytes.length : Int))) 0).toNat : Int) + ((11 * s_mix) + (s_used / (s_bytes.length : Int)))) <= (9223372036854775807 : Int))) <|
  zcj s_used s_mix n (((s_bytes.getD (Int.toNat (s_used % (s_bytes.length : Int))) 0).toNat : Int) + ((11 * s_mix) + (s_used / (s_bytes.length : Int)))))
  else (
  zcj s_used s_mix n ((s_bytes.getD (Int.toNat (s_used % (s_bytes.length : Int))) 0).toNat : Int)))
theorem zab {R : List Chunk} {aa : Nat} {ak : Cells} {ab : Value} (s_bytes : List UInt8) (s_used : Int) (s_mix : Int) (n : Int) (al : Reads R ak) (ac : Sl ak ab s_bytes) {r : (Int × Int × Int)} (hM : (zac s_bytes s_used s_mix n).Ends r) (w : World) (H : St w w [cBlk aa [ab, I s_used, I s_mix] 71] R) : Ret Try.prog 10 #[Pq aa, I n] w fun v w' => ∃ (y0 : Int) (y1 : Int) (y2 : Int), (y0, y1, y2) = r /\ v = I y0 /\ St w w' [cBlk aa [ab, I y1, I y2] 71] R := by
 refine ret_of_W Try.func10 rfl rfl rfl ?_
 refine W.seq ?_
 refine W.region rfl ?_
 refine zA (I 0) rfl ?_
 refine s_nil ?_
 refine W.seq ?_
 refine W.seq ?_
 refine W.region rfl ?_
 refine zM (I n) rfl ?_
 refine zC n 2 (decide (n < 2)) rfl rfl rfl ?_
 refine zM (B (decide (n < 2))) rfl ?_
 refine g_val (!(decide (n < 2))) (gy_f rfl) (fun hg => x_mv (v := Pq aa) rfl) ?_
 refine g_val (!(decide (n < 2))) (gy_f rfl) (fun hg => x_nc (a := ⟨aa, 0, none⟩) (gd_of (c := !(decide (n < 2))) hg (Pq aa))) ?_
 refine g_val (!(decide (n < 2))) (gy_f rfl) (fun hg => x_fa (a := Pq aa) (v := Pq aa) (gd_of (c := !(decide (n < 2))) hg (Pq aa)) (fa_blk (o := 0) Fd71_0 Sz22)) ?_
 refine g_val (!(decide (n < 2))) (gy_f rfl) (fun hg => x_ld (p := Pq aa) (v := ab) (gd_of (c := !(decide (n < 2))) hg (Pq aa)) (ldb_sc Sc22 (H.bl 0) rfl)) ?_
 have aH := (ac).len_le
 refine g_val (!(decide (n < 2))) (gy_f rfl) (fun hg => x_lenS T22.und (gd_of (c := !(decide (n < 2))) hg (ab)) ac) ?_
 refine g_val (!(decide (n < 2))) (gy_f rfl) (fun hg => x_cmp (kd := .i64) (a := (s_bytes.length : Int)) (b := 0) (r := (s_bytes.length : Int) == 0) (gd_of (c := !(decide (n < 2))) hg (I (s_bytes.length : Int))) rfl rfl) ?_
 refine s_val (x_por (b := decide (n < 2)) (r := (s_bytes.length : Int) == 0) rfl rfl (fun hb => gd_of (c := !(decide (n < 2))) (by first | exact hb | (rw [hb]; rfl) | simp_all) (B ((s_bytes.length : Int) == 0)))) ?_
 refine s_nil ?_
 refine W.cond ((decide (n < 2)) || ((s_bytes.length : Int) == 0)) rfl (fun aj => ?_) (fun aj => ?_)
 ·replace hM := M.e_t hM aj
  refine W.seq ?_
  refine W.region rfl ?_
  refine zA (I 0) rfl ?_
  refine s_nil ?_
  refine W.ret ?_
  have ag := M.e_pure hM
  exact ⟨_, resE_tmp rfl, ⟨0, s_used, s_mix, ag, rfl, H⟩⟩
 replace hM := M.e_f hM aj
 refine W.skip ?_
 refine W.seq ?_
 refine W.draw (fun W => St w W [cBlk aa [ab, I s_used, I s_mix] 71] R) [(0, true), (1, true), (2, true), (3, true), (4, true), (5, true), (6, true), (7, true), (8, true), (9, true), (10, true), (11, true), (12, true), (13, true), (14, true), (15, true), (16, true), (17, true)] mixed (by decide +kernel) rfl ?_
 intro aI ae
 replace H := H.ext ae
 clear ae
 refine ⟨(H.pk [0]), ?_⟩
 refine d_q rfl (fun w' H => x_mv (v := Pq aa) rfl) ?_
 refine d_q rfl (fun w' H => x_nc (a := ⟨aa, 0, none⟩) rfl) ?_
 refine d_q rfl (fun w' H => x_fa (a := Pq aa) (v := Pq aa) rfl (fa_blk (o := 0) Fd71_0 Sz22)) ?_
 refine d_q rfl (fun w' H => x_ld (p := Pq aa) (v := ab) rfl (ldb_sc Sc22 (H.bl 0) rfl)) ?_
 refine d_q rfl (fun w' H => x_mv (v := Pq aa) rfl) ?_
 refine d_q rfl (fun w' H => x_nc (a := ⟨aa, 0, none⟩) rfl) ?_
 refine d_q rfl (fun w' H => x_fa (a := Pq aa) (v := Oq aa 1) rfl (fa_blk (o := 0) Fd71_1 Sz3)) ?_
 refine d_q rfl (fun w' H => x_ld (p := Oq aa 1) (v := I s_used) rfl (ldb_sc Sc3 (H.bl 0) rfl)) ?_
 refine d_q rfl (fun w' H => x_mv (v := Pq aa) rfl) ?_
 refine d_q rfl (fun w' H => x_nc (a := ⟨aa, 0, none⟩) rfl) ?_
 refine d_q rfl (fun w' H => x_fa (a := Pq aa) (v := Pq aa) rfl (fa_blk (o := 0) Fd71_0 Sz22)) ?_
 refine d_q rfl (fun w' H => x_ld (p := Pq aa) (v := ab) rfl (ldb_sc Sc22 (H.bl 0) rfl)) ?_
 have aJ := (ac).len_le
 refine d_q rfl (fun w' H => x_lenS T22.und rfl ac) ?_
 obtain ⟨am, hM⟩ := M.e_grd hM
 simp only [Bool.and_eq_true, decide_eq_true_eq] at am
 refine d_q rfl (fun w' H => x_rem' (a := s_used) (b := (s_bytes.length : Int)) rfl rfl (by omega)) ?_
 obtain ⟨ao, hM⟩ := M.e_grd hM
 simp only [Bool.and_eq_true, decide_eq_true_eq] at ao
 refine d_q rfl (fun w' H => x_ix (a := ab) (b := I (s_used % (s_bytes.length : Int))) (v := vat ab 1 (Int.toNat (s_used % (s_bytes.length : Int)))) rfl rfl (Sl.ix (α := UInt8) T22.und T22.size ac (by omega) (by omega))) ?_
 refine d_q rfl (fun w' H => x_ld (p := vat ab 1 (Int.toNat (s_used % (s_bytes.length : Int)))) (v := .int .u8 (((s_bytes.getD (Int.toNat (s_used % (s_bytes.length : Int))) 0).toNat : Int))) rfl (ld_sc Sc5 (At.mono (UInt8_at ac (i := s_used % (s_bytes.length : Int)) (by omega) (by omega)) (al.at H)))) ?_
 obtain ⟨aq, hM⟩ := M.e_grd hM
 simp only [Bool.and_eq_true, decide_eq_true_eq] at aq
 refine d_q rfl (fun w' H => x_conv64 (kd := .u8) (a := ((s_bytes.getD (Int.toNat (s_used % (s_bytes.length : Int))) 0).toNat : Int)) Try.underlying5 Try.underlying3 rfl (by omega)) ?_
 refine d_q rfl (fun w' H => x_as (v := I ((s_bytes.getD (Int.toNat (s_used % (s_bytes.length : Int))) 0).toNat : Int)) rfl) ?_
 refine d_nil ?_
 refine W.seqJ (fun σ W => ∃ (b : Int) (ρ : Env), σ = upds ρ [(0, Pq aa), (1, I n), (5, I b)] /\ (zcj s_used s_mix n b).Ends r /\ St w W [cBlk aa [ab, I s_used, I s_mix] 71] R) ?_ ?_
 ·skip
  refine W.seq ?_
  refine W.draw (fun W => St w W [cBlk aa [ab, I s_used, I s_mix] 71] R) [(0, true), (1, true), (2, true), (3, true), (4, true), (5, true), (6, true), (7, true), (8, true), (9, true)] mixed (by decide +kernel) rfl ?_
  intro aK ae
  replace H := H.ext ae
  clear ae
  refine ⟨(H.pk [0]), ?_⟩
  refine d_q rfl (fun w' H => x_mv (v := Pq aa) rfl) ?_
  refine d_q rfl (fun w' H => x_nc (a := ⟨aa, 0, none⟩) rfl) ?_
  refine d_q rfl (fun w' H => x_fa (a := Pq aa) (v := Oq aa 1) rfl (fa_blk (o := 0) Fd71_1 Sz3)) ?_
  refine d_q rfl (fun w' H => x_ld (p := Oq aa 1) (v := I s_used) rfl (ldb_sc Sc3 (H.bl 0) rfl)) ?_
  refine d_q rfl (fun w' H => x_mv (v := Pq aa) rfl) ?_
  refine d_q rfl (fun w' H => x_nc (a := ⟨aa, 0, none⟩) rfl) ?_
  refine d_q rfl (fun w' H => x_fa (a := Pq aa) (v := Pq aa) rfl (fa_blk (o := 0) Fd71_0 Sz22)) ?_
  refine d_q rfl (fun w' H => x_ld (p := Pq aa) (v := ab) rfl (ldb_sc Sc22 (H.bl 0) rfl)) ?_
  have aL := (ac).len_le
  refine d_q rfl (fun w' H => x_lenS T22.und rfl ac) ?_
  refine d_q rfl (fun w' H => x_cmp (kd := .i64) (a := s_used) (b := (s_bytes.length : Int)) (r := decide ((s_bytes.length : Int) <= s_used)) rfl rfl rfl) ?_
  refine d_nil ?_
  refine W.cond (decide ((s_bytes.length : Int) <= s_used)) rfl (fun ah => ?_) (fun ah => ?_)
  ·replace hM := M.e_t hM ah
   simp only [qy1, qy2, qy3, qy4, qy5, qy6, ne_eq, qy7] at ah
   refine W.draw (fun W => St w W [cBlk aa [ab, I s_used, I s_mix] 71] R) [(0, true), (1, true), (2, true), (3, true), (4, true), (5, true), (6, true), (7, true), (8, true), (9, true), (10, true), (11, true), (12, true), (13, true), (14, true), (15, true), (16, true), (17, true), (18, true)] mixed (by decide +kernel) rfl ?_
   intro aM ae
   replace H := H.ext ae
   clear ae
   refine ⟨(H.pk [0]), ?_⟩
   refine d_q rfl (fun w' H => x_mv (v := I ((s_bytes.getD (Int.toNat (s_used % (s_bytes.length : Int))) 0).toNat : Int)) rfl) ?_
   refine d_q rfl (fun w' H => x_mv (v := Pq aa) rfl) ?_
   refine d_q rfl (fun w' H => x_nc (a := ⟨aa, 0, none⟩) rfl) ?_
   refine d_q rfl (fun w' H => x_fa (a := Pq aa) (v := Oq aa 2) rfl (fa_blk (o := 0) Fd71_2 Sz3)) ?_
   refine d_q rfl (fun w' H => x_ld (p := Oq aa 2) (v := I s_mix) rfl (ldb_sc Sc3 (H.bl 0) rfl)) ?_
   obtain ⟨au, hM⟩ := M.e_grd hM
   simp only [Bool.and_eq_true, decide_eq_true_eq] at au
   refine d_q rfl (fun w' H => x_ari (a := 11) (b := s_mix) (r := 11 * s_mix) rfl rfl rfl (by omega)) ?_
   refine d_q rfl (fun w' H => x_mv (v := Pq aa) rfl) ?_
   refine d_q rfl (fun w' H => x_nc (a := ⟨aa, 0, none⟩) rfl) ?_
   refine d_q rfl (fun w' H => x_fa (a := Pq aa) (v := Oq aa 1) rfl (fa_blk (o := 0) Fd71_1 Sz3)) ?_
   refine d_q rfl (fun w' H => x_ld (p := Oq aa 1) (v := I s_used) rfl (ldb_sc Sc3 (H.bl 0) rfl)) ?_
   refine d_q rfl (fun w' H => x_mv (v := Pq aa) rfl) ?_
   refine d_q rfl (fun w' H => x_nc (a := ⟨aa, 0, none⟩) rfl) ?_
   refine d_q rfl (fun w' H => x_fa (a := Pq aa) (v := Pq aa) rfl (fa_blk (o := 0) Fd71_0 Sz22)) ?_
   refine d_q rfl (fun w' H => x_ld (p := Pq aa) (v := ab) rfl (ldb_sc Sc22 (H.bl 0) rfl)) ?_
   have aN := (ac).len_le
   refine d_q rfl (fun w' H => x_lenS T22.und rfl ac) ?_
   obtain ⟨av, hM⟩ := M.e_grd hM
   simp only [Bool.and_eq_true, decide_eq_true_eq] at av
   refine d_q rfl (fun w' H => x_quo (a := s_used) (b := (s_bytes.length : Int)) rfl rfl (by omega)) ?_
   obtain ⟨aw, hM⟩ := M.e_grd hM
   simp only [Bool.and_eq_true, decide_eq_true_eq] at aw
   refine d_q rfl (fun w' H => x_ari (a := 11 * s_mix) (b := s_used / (s_bytes.length : Int)) (r := (11 * s_mix) + (s_used / (s_bytes.length : Int))) rfl rfl rfl (by omega)) ?_
   obtain ⟨ax, hM⟩ := M.e_grd hM
   simp only [Bool.and_eq_true, decide_eq_true_eq] at ax
   refine d_q rfl (fun w' H => x_ari (a := ((s_bytes.getD (Int.toNat (s_used % (s_bytes.length : Int))) 0).toNat : Int)) (b := (11 * s_mix) + (s_used / (s_bytes.length : Int))) (r := ((s_bytes.getD (Int.toNat (s_used % (s_bytes.length : Int))) 0).toNat : Int) + ((11 * s_mix) + (s_used / (s_bytes.length : Int)))) rfl rfl rfl (by omega)) ?_
   refine d_q rfl (fun w' H => x_as (v := I (((s_bytes.getD (Int.toNat (s_used % (s_bytes.length : Int))) 0).toNat : Int) + ((11 * s_mix) + (s_used / (s_bytes.length : Int))))) rfl) ?_
   refine d_nil ?_
   exact ⟨((s_bytes.getD (Int.toNat (s_used % (s_bytes.length : Int))) 0).toNat : Int) + ((11 * s_mix) + (s_used / (s_bytes.length : Int))), _, upds_of _ _ ⟨rfl, rfl, rfl, trivial⟩, hM, H⟩
  replace hM := M.e_f hM ah
  simp only [qy1, qy2, qy3, qy4, qy5, qy6, ne_eq, qy7] at ah
  refine W.skip ?_
  exact ⟨((s_bytes.getD (Int.toNat (s_used % (s_bytes.length : Int))) 0).toNat : Int), _, upds_of _ _ ⟨rfl, rfl, rfl, trivial⟩, hM, H⟩
 rintro _ aO ⟨b, ρ, rfl, hM, H⟩
 unfold zcj at hM
 refine W.seq ?_
 refine W.region rfl ?_
 refine zM (Pq aa) rfl ?_
 refine zM (Pq aa) rfl ?_
 refine s_val (x_nc (a := ⟨aa, 0, none⟩) rfl) ?_
 refine s_val (x_fa (a := Pq aa) (v := Oq aa 2) rfl (fa_blk (o := 0) Fd71_2 Sz3)) ?_
 refine s_val (x_ld (p := Oq aa 2) (v := I s_mix) rfl (ldb_sc Sc3 (H.bl 0) rfl)) ?_
 obtain ⟨ay, hM⟩ := M.e_grd hM
 simp only [Bool.and_eq_true, decide_eq_true_eq] at ay
 refine zR 5 s_mix (5 * s_mix) rfl rfl rfl (by omega) ?_
 refine zM (I b) rfl ?_
 obtain ⟨az, hM⟩ := M.e_grd hM
 simp only [Bool.and_eq_true, decide_eq_true_eq] at az
 refine zR (5 * s_mix) b ((5 * s_mix) + b) rfl rfl rfl (by omega) ?_
 obtain ⟨aA, hM⟩ := M.e_grd hM
 simp only [Bool.and_eq_true, decide_eq_true_eq] at aA
 refine zR ((5 * s_mix) + b) 1 (((5 * s_mix) + b) + 1) rfl rfl rfl (by omega) ?_
 obtain ⟨aB, hM⟩ := M.e_grd hM
 simp only [Bool.and_eq_true, decide_eq_true_eq] at aB
 refine s_val (x_rem' (a := ((5 * s_mix) + b) + 1) (b := 251) rfl rfl (by omega)) ?_
 refine s_val (x_nc (a := ⟨aa, 0, none⟩) rfl) ?_
 refine s_val (x_fa (a := Pq aa) (v := Oq aa 2) rfl (fa_blk (o := 0) Fd71_2 Sz3)) ?_
 refine t_sw 0 2 [I ((((5 * s_mix) + b) + 1) % 251)] (I ((((5 * s_mix) + b) + 1) % 251)) H rfl rfl Sz3 rfl rfl rfl rfl ?_
 intro aP H
 refine s_nil ?_
 refine W.seq ?_
 refine W.region rfl ?_
 refine zM (Pq aa) rfl ?_
 refine s_val (x_nc (a := ⟨aa, 0, none⟩) rfl) ?_
 refine s_val (x_fa (a := Pq aa) (v := Oq aa 1) rfl (fa_blk (o := 0) Fd71_1 Sz3)) ?_
 refine s_val (x_ld (p := Oq aa 1) (v := I s_used) rfl (ldb_sc Sc3 (H.bl 0) rfl)) ?_
 obtain ⟨aC, hM⟩ := M.e_grd hM
 simp only [Bool.and_eq_true, decide_eq_true_eq] at aC
 refine zR s_used 1 (s_used + 1) rfl rfl rfl (by omega) ?_
 refine s_val (x_nc (a := ⟨aa, 0, none⟩) rfl) ?_
 refine s_val (x_fa (a := Pq aa) (v := Oq aa 1) rfl (fa_blk (o := 0) Fd71_1 Sz3)) ?_
 refine t_sw 0 1 [I (s_used + 1)] (I (s_used + 1)) H rfl rfl Sz3 rfl rfl rfl rfl ?_
 intro aQ H
 refine s_nil ?_
 refine W.seq ?_
 refine W.seq ?_
 refine W.region rfl ?_
 refine zM (I n) rfl ?_
 refine zC n 256 (decide (256 < n)) rfl rfl rfl ?_
 refine s_nil ?_
 refine W.cond (decide (256 < n)) rfl (fun ai => ?_) (fun ai => ?_)
 ·replace hM := M.e_t hM ai
  simp only [qy1, qy2, qy3, qy4, qy5, qy6, ne_eq, qy7] at ai
  refine W.region rfl ?_
  refine zM (I b) rfl ?_
  obtain ⟨aD, hM⟩ := M.e_grd hM
  simp only [Bool.and_eq_true, decide_eq_true_eq] at aD
  refine zR 256 b (256 * b) rfl rfl rfl (by omega) ?_
  refine zM (Pq aa) rfl ?_
  refine s_val (x_nc (a := ⟨aa, 0, none⟩) rfl) ?_
  refine s_val (x_fa (a := Pq aa) (v := Oq aa 2) rfl (fa_blk (o := 0) Fd71_2 Sz3)) ?_
  refine s_val (x_ld (p := Oq aa 2) (v := I ((((5 * s_mix) + b) + 1) % 251)) rfl (ldb_sc Sc3 (H.bl 0) rfl)) ?_
  obtain ⟨aE, hM⟩ := M.e_grd hM
  simp only [Bool.and_eq_true, decide_eq_true_eq] at aE
  refine zR (256 * b) ((((5 * s_mix) + b) + 1) % 251) ((256 * b) + ((((5 * s_mix) + b) + 1) % 251)) rfl rfl rfl (by omega) ?_
  refine zA (I ((256 * b) + ((((5 * s_mix) + b) + 1) % 251))) rfl ?_
  refine s_nil ?_
  refine W.seq ?_
  refine W.region rfl ?_
  refine zM (I ((256 * b) + ((((5 * s_mix) + b) + 1) % 251))) rfl ?_
  refine zM (I n) rfl ?_
  obtain ⟨aF, hM⟩ := M.e_grd hM
  simp only [Bool.and_eq_true, decide_eq_true_eq] at aF
  refine s_val (x_rem' (a := (256 * b) + ((((5 * s_mix) + b) + 1) % 251)) (b := n) rfl rfl (by omega)) ?_
  refine zA (I (((256 * b) + ((((5 * s_mix) + b) + 1) % 251)) % n)) rfl ?_
  refine s_nil ?_
  refine W.ret ?_
  have ag := M.e_pure hM
  exact ⟨_, resE_tmp rfl, ⟨(((256 * b) + ((((5 * s_mix) + b) + 1) % 251)) % n), (s_used + 1), ((((5 * s_mix) + b) + 1) % 251), ag, rfl, H⟩⟩
 replace hM := M.e_f hM ai
 simp only [qy1, qy2, qy3, qy4, qy5, qy6, ne_eq, qy7] at ai
 refine W.skip ?_
 refine W.seq ?_
 refine W.region rfl ?_
 refine zM (I b) rfl ?_
 refine zM (I n) rfl ?_
 obtain ⟨aG, hM⟩ := M.e_grd hM
 simp only [Bool.and_eq_true, decide_eq_true_eq] at aG
 refine s_val (x_rem' (a := b) (b := n) rfl rfl (by omega)) ?_
 refine zA (I (b % n)) rfl ?_
 refine s_nil ?_
 refine W.ret ?_
 have ag := M.e_pure hM
 exact ⟨_, resE_tmp rfl, ⟨(b % n), (s_used + 1), ((((5 * s_mix) + b) + 1) % 251), ag, rfl, H⟩⟩

def za6 (s_bytes : List UInt8) (s_used : Int) (s_mix : Int) (lo : Int) (hi : Int) : M (Int × Int × Int) :=
  M.grd (decide ((-9223372036854775808 : Int) <= (hi - lo)) && decide ((hi - lo) <= (9223372036854775807 : Int))) <|
  M.grd (decide ((-9223372036854775808 : Int) <= ((hi - lo) + 1)) && decide (((hi - lo) + 1) <= (9223372036854775807 : Int))) <|
  M.bind (zac s_bytes s_used s_mix ((hi - lo) + 1)) fun (r2, q1, q2) =>
  M.grd (decide ((-9223372036854775808 : Int) <= (lo + r2)) && decide ((lo + r2) <= (9223372036854775807 : Int))) <|
  M.pure ((lo + r2), q1, q2)
theorem zaQ {R : List Chunk} {aa : Nat} {ac : Cells} {ab : Value} (s_bytes : List UInt8) (s_used : Int) (s_mix : Int) (lo : Int) (hi : Int) (ag : Reads R ac) (ah : Sl ac ab s_bytes) {r : (Int × Int × Int)} (hM : (za6 s_bytes s_used s_mix lo hi).Ends r) (w : World) (H : St w w [cBlk aa [ab, I s_used, I s_mix] 71] R) : Ret Try.prog 27 #[Pq aa, I lo, I hi] w fun v w' => ∃ (y0 : Int) (y1 : Int) (y2 : Int), (y0, y1, y2) = r /\ v = I y0 /\ St w w' [cBlk aa [ab, I y1, I y2] 71] R := by
 refine ret_of_W Try.func27 rfl rfl rfl ?_
 refine W.seq ?_
 refine W.region rfl ?_
 refine zA (I 0) rfl ?_
 refine s_nil ?_
 refine W.seq ?_
 refine W.region rfl ?_
 refine zM (I lo) rfl ?_
 refine zM (Pq aa) rfl ?_
 refine zM (I hi) rfl ?_
 refine zM (I lo) rfl ?_
 obtain ⟨ai, hM⟩ := M.e_grd hM
 simp only [Bool.and_eq_true, decide_eq_true_eq] at ai
 refine zR hi lo (hi - lo) rfl rfl rfl (by omega) ?_
 obtain ⟨aj, hM⟩ := M.e_grd hM
 simp only [Bool.and_eq_true, decide_eq_true_eq] at aj
 refine zR (hi - lo) 1 ((hi - lo) + 1) rfl rfl rfl (by omega) ?_
 obtain ⟨aq, ak, hM⟩ := M.e_bind hM
 refine s_call cf10 [Pq aa, I ((hi - lo) + 1)] rfl (zab s_bytes s_used s_mix ((hi - lo) + 1) (ag.app _) ah ak _ (H.gt 0)) ?_
 rintro vq au ⟨r2, q1, q2, al, hvq, ae⟩
 subst al
 subst vq
 try dsimp only at hM
 replace H := H.bk ae
 clear ae
 obtain ⟨am, hM⟩ := M.e_grd hM
 simp only [Bool.and_eq_true, decide_eq_true_eq] at am
 refine zR lo r2 (lo + r2) rfl rfl rfl (by omega) ?_
 refine zA (I (lo + r2)) rfl ?_
 refine s_nil ?_
 refine W.ret ?_
 have ao := M.e_pure hM
 exact ⟨_, resE_tmp rfl, ⟨(lo + r2), q1, q2, ao, rfl, H⟩⟩

end Go.Proofs.Ytbaehghammbjdaa
end
namespace Go.Nm
structure SOk (c u x : Int) : Prop where
  u0 : 0 <= u
  u1 : u <= c
  x0 : 0 <= x
  x1 : x < 251
theorem SOk.mono {c d u x : Int} (h : SOk c u x) (hd : c <= d) : SOk d u x := ⟨h.u0, Int.le_trans h.u1 hd, h.x0, h.x1⟩
/-- What a stream gives: a number below n. -/
structure Nx (c n : Int) (y : Int × Int × Int) : Prop where
  ok : SOk c y.2.1 y.2.2
  lt : 1 <= n -> 0 <= y.1 /\ y.1 < n
  no : n < 1 -> y.1 = 0
end Go.Nm
namespace Go.Proofs.Ytbaehghammbjdaa
open Go Go.Nm
theorem next_out {b : List UInt8} {c u x n : Int} (h : SOk c u x) (hc : c <= 1000000000000) (hn : n <= 1000000) : (zac b u x n).Out (Nx (c + 1) n) := by
  obtain ⟨u0, u1, x0, x1⟩ := h
  unfold zac
  refine M.o_if (fun hb => ?_) (fun hb => ?_)
  · simp only [Bool.or_eq_true, decide_eq_true_eq, beq_iff_eq] at hb
    refine M.o_pure ⟨⟨u0, by dsimp only; omega, x0, x1⟩, fun h1 => ⟨Int.le_refl _, ?_⟩, fun _ => rfl⟩
    dsimp only
    omega
  · simp only [Bool.or_eq_false_iff, decide_eq_false_iff_not, beq_eq_false_iff_ne, ne_eq] at hb
    have hl : (0 : Int) < (b.length : Int) := by omega
    have m0 := Int.emod_nonneg u (show (b.length : Int) ≠ 0 by omega)
    have m1 := Int.emod_lt_of_pos u hl
    have d0 := Int.ediv_nonneg u0 (show (0 : Int) <= (b.length : Int) by omega)
    have d1 : u / (b.length : Int) <= u := Int.ediv_le_self _ u0
    have y1 : ((b.getD (Int.toNat (u % (b.length : Int))) 0).toNat : Int) < 256 := by
      have := UInt8.toNat_lt (b.getD (Int.toNat (u % (b.length : Int))) 0)
      omega
    have y0 : (0 : Int) <= ((b.getD (Int.toNat (u % (b.length : Int))) 0).toNat : Int) := Int.natCast_nonneg _
    generalize ((b.getD (Int.toNat (u % (b.length : Int))) 0).toNat : Int) = y at *
    generalize u % (b.length : Int) = m at *
    generalize u / (b.length : Int) = d at *
    have hn0 : 0 < n := by omega
    have fin : ∀ z : Int, 0 <= z -> 0 <= z % n /\ z % n < n := fun z hz => ⟨Int.emod_nonneg _ (by omega), Int.emod_lt_of_pos _ hn0⟩
    have pr : ∀ z w : Int, 0 <= z -> Nx (c + 1) n (z % n, u + 1, w % 251) := fun z w hz => ⟨⟨by dsimp only; omega, by dsimp only; omega, by dsimp only; omega, by dsimp only; omega⟩, fun _ => fin z hz, fun h => by omega⟩
    refine M.o_grd (by simp only [Bool.and_eq_true, decide_eq_true_eq]; omega) (M.o_grd (by simp only [Bool.and_eq_true, decide_eq_true_eq]; omega) (M.o_grd (by simp only [Bool.and_eq_true, decide_eq_true_eq]; omega) ?_))
    refine M.o_if (fun h1 => ?_) (fun h1 => ?_)
    · refine M.o_grd (by simp only [Bool.and_eq_true, decide_eq_true_eq]; omega) (M.o_grd (by simp only [Bool.and_eq_true, decide_eq_true_eq]; omega) (M.o_grd (by simp only [Bool.and_eq_true, decide_eq_true_eq]; omega) (M.o_grd (by simp only [Bool.and_eq_true, decide_eq_true_eq]; omega) (M.o_grd (by simp only [Bool.and_eq_true, decide_eq_true_eq]; omega) ?_))))
      refine M.o_grd (by simp only [Bool.and_eq_true, decide_eq_true_eq]; omega) (M.o_grd (by simp only [Bool.and_eq_true, decide_eq_true_eq]; omega) (M.o_grd (by simp only [Bool.and_eq_true, decide_eq_true_eq]; omega) (M.o_grd (by simp only [Bool.and_eq_true, decide_eq_true_eq]; omega) ?_)))
      refine M.o_if (fun h2 => ?_) (fun h2 => ?_)
      · refine M.o_grd (by simp only [Bool.and_eq_true, decide_eq_true_eq]; omega) (M.o_grd (by simp only [Bool.and_eq_true, decide_eq_true_eq]; omega) (M.o_grd (by simp only [Bool.and_eq_true, decide_eq_true_eq]; omega) (M.o_pure (pr _ _ (by omega)))))
      · refine M.o_grd (by simp only [Bool.and_eq_true, decide_eq_true_eq]; omega) (M.o_pure (pr _ _ (by omega)))
    · refine M.o_grd (by simp only [Bool.and_eq_true, decide_eq_true_eq]; omega) (M.o_grd (by simp only [Bool.and_eq_true, decide_eq_true_eq]; omega) (M.o_grd (by simp only [Bool.and_eq_true, decide_eq_true_eq]; omega) (M.o_grd (by simp only [Bool.and_eq_true, decide_eq_true_eq]; omega) (M.o_grd (by simp only [Bool.and_eq_true, decide_eq_true_eq]; omega) ?_))))
      refine M.o_if (fun h2 => ?_) (fun h2 => ?_)
      · refine M.o_grd (by simp only [Bool.and_eq_true, decide_eq_true_eq]; omega) (M.o_grd (by simp only [Bool.and_eq_true, decide_eq_true_eq]; omega) (M.o_grd (by simp only [Bool.and_eq_true, decide_eq_true_eq]; omega) (M.o_pure (pr _ _ (by omega)))))
      · refine M.o_grd (by simp only [Bool.and_eq_true, decide_eq_true_eq]; omega) (M.o_pure (pr _ _ (by omega)))
theorem within_out {b : List UInt8} {c u x lo hi : Int} (h : SOk c u x) (hc : c <= 1000000000000) (h0 : -1000 <= lo) (h1 : lo <= hi) (h2 : hi <= 10000) : (za6 b u x lo hi).Out (fun y => SOk (c + 1) y.2.1 y.2.2 /\ lo <= y.1 /\ y.1 <= hi) := by
  unfold za6
  refine M.o_grd (gA2 (by omega) (by omega)) (M.o_grd (gA2 (by omega) (by omega)) (M.o_bind (next_out h hc (by omega)) ?_))
  rintro ⟨r, u', x'⟩ ⟨k, hl, _⟩
  have := hl (by omega)
  dsimp only at this k ⊢
  exact M.o_grd (gA2 (by omega) (by omega)) (M.o_pure ⟨k, by dsimp only; omega, by dsimp only; omega⟩)
end Go.Proofs.Ytbaehghammbjdaa
namespace Go.Nm
theorem SOk.zero : SOk 0 0 0 := ⟨Int.le_refl _, Int.le_refl _, Int.le_refl _, by decide⟩
end Go.Nm
namespace Go.Proofs.Ytbaehghammbjdaa
open Go Go.Nm
end Go.Proofs.Ytbaehghammbjdaa
section
set_option maxRecDepth 100000
set_option maxHeartbeats 16000000
namespace Go.Proofs.Ytbaehghammbjdaa
open Go Go.Nm
def zb5 (s_bytes : List UInt8) (i : Nat) (l : List Int) (l2 : List Span) (l3 : List Int) (down : Int) (r5 : Int) (r6 : Int) (aa : Int) (ab : Int) : M ((Int × Int × Nat × (List Int) × (List Span) × (List Int)) ⊕ (Int × Int × (List Int) × (List Span) × (List Int) × (List Int) × (List Span) × (List Int))) :=
  bif decide ((l3.length : Int) < 8) then (
  M.bind (zac s_bytes aa ab 3) fun (r7, ac, ae) =>
  bif ((decide ((l3.length : Int) < 8)) && (r7 == 0)) then (
  M.grd (decide ((l3.length + ([(i : Int)]).length) * 8 <= 140737488355328)) <|
  M.grd (decide ((-9223372036854775808 : Int) <= ((i : Int) + 1)) && decide (((i : Int) + 1) <= (9223372036854775807 : Int))) <|
  M.pure (.inl (ac, ae, i + 1, l ++ ([(down : Int)]), l2 ++ ([(⟨(r5 : Int), (r5 + r6 : Int)⟩ : Span)]), l3 ++ ([(i : Int)]))))
  else (
  M.grd (decide ((-9223372036854775808 : Int) <= ((i : Int) + 1)) && decide (((i : Int) + 1) <= (9223372036854775807 : Int))) <|
  M.pure (.inl (ac, ae, i + 1, l ++ ([(down : Int)]), l2 ++ ([(⟨(r5 : Int), (r5 + r6 : Int)⟩ : Span)]), l3))))
  else (
  M.grd (decide ((-9223372036854775808 : Int) <= ((i : Int) + 1)) && decide (((i : Int) + 1) <= (9223372036854775807 : Int))) <|
  M.pure (.inl (aa, ab, i + 1, l ++ ([(down : Int)]), l2 ++ ([(⟨(r5 : Int), (r5 + r6 : Int)⟩ : Span)]), l3)))
def zao (s_bytes : List UInt8) (i : Nat) (l : List Int) (l2 : List Span) (l3 : List Int) (s2 : Int) (s3 : Int) (down : Int) : M ((Int × Int × Nat × (List Int) × (List Span) × (List Int)) ⊕ (Int × Int × (List Int) × (List Span) × (List Int) × (List Int) × (List Span) × (List Int))) :=
  M.bind (zac s_bytes s2 s3 9) fun (r5, aa, ab) =>
  M.grd (decide ((l.length + ([(down : Int)]).length) * 8 <= 140737488355328)) <|
  M.bind (zac s_bytes aa ab 5) fun (r6, ac, ae) =>
  M.grd (decide ((-9223372036854775808 : Int) <= (r5 + r6)) && decide ((r5 + r6) <= (9223372036854775807 : Int))) <|
  M.grd (decide ((l2.length + ([(⟨(r5 : Int), (r5 + r6 : Int)⟩ : Span)]).length) * 16 <= 140737488355328)) <|
  zb5 s_bytes i l l2 l3 down r5 r6 ac ae
def za5 (s_bytes : List UInt8) (r2 : Int) : (Int × Int × Nat × (List Int) × (List Span) × (List Int)) -> M ((Int × Int × Nat × (List Int) × (List Span) × (List Int)) ⊕ (Int × Int × (List Int) × (List Span) × (List Int) × (List Int) × (List Span) × (List Int))) := fun (s4, s5, i, l, l2, l3) =>
  bif decide ((i : Int) < r2) then (
  M.grd (decide ((-9223372036854775808 : Int) <= ((i : Int) + 1)) && decide (((i : Int) + 1) <= (9223372036854775807 : Int))) <|
  bif decide (((i : Int) + 1) < r2) then (
  M.bind (zac s_bytes s4 s5 6) fun (r3, aa, ab) =>
  bif ((decide (((i : Int) + 1) < r2)) && (decide (0 < r3))) then (
  M.grd (decide ((-9223372036854775808 : Int) <= (r2 - 1)) && decide ((r2 - 1) <= (9223372036854775807 : Int))) <|
  M.grd (decide ((-9223372036854775808 : Int) <= ((i : Int) + 3)) && decide (((i : Int) + 3) <= (9223372036854775807 : Int))) <|
  M.bind (za6 s_bytes aa ab ((i : Int) + 1) (min (r2 - 1) ((i : Int) + 3))) fun (r4, ac, ae) =>
  zao s_bytes i l l2 l3 ac ae r4)
  else (
  zao s_bytes i l l2 l3 aa ab (-1)))
  else (
  zao s_bytes i l l2 l3 s4 s5 (-1)))
  else (
  M.pure (.inr (s4, s5, l, l2, l3, l3, l2, l)))
def zbL (s_bytes : List UInt8) (r2 : Int) : (Int × Int × Int × (List Town)) -> M ((Int × Int × Int × (List Town)) ⊕ (Int × Int × (List Town) × (List Town))) := fun (s8, s9, k, aa) =>
  bif decide (0 < k) then (
  M.bind (zac s_bytes s8 s9 r2) fun (r9, ae, ag) =>
  M.bind (zac s_bytes ae ag 8) fun (ab, ah, ai) =>
  M.bind (za6 s_bytes ah ai 100 300) fun (ac, aj, ak) =>
  M.grd (decide ((aa.length + ([(⟨(r9 : Int), (ab : Int), (ac : Int)⟩ : Town)]).length) * 24 <= 140737488355328)) <|
  M.grd (decide ((-9223372036854775808 : Int) <= (k - 1)) && decide ((k - 1) <= (9223372036854775807 : Int))) <|
  M.pure (.inl (aj, ak, k - 1, aa ++ ([(⟨(r9 : Int), (ab : Int), (ac : Int)⟩ : Town)]))))
  else (
  M.pure (.inr (s8, s9, aa, aa)))
def zaN (s_bytes : List UInt8) (l9 : List Int) : (Int × Int × Int × (List Int)) -> M ((Int × Int × Int × (List Int)) ⊕ (Int × Int × (List Int) × (List Int))) := fun (ac, ae, aa, ab) =>
  bif aa != (-1) then (
  M.bind (zac s_bytes ac ae 400) fun (ag, ah, ai) =>
  M.grd (decide ((ab.length + ([(ag : Int)]).length) * 8 <= 140737488355328)) <|
  M.grd (decide ((0 : Int) <= aa) && decide (aa < (l9.length : Int))) <|
  M.pure (.inl (ah, ai, l9.getD (Int.toNat aa) 0, ab ++ ([(ag : Int)]))))
  else (
  M.pure (.inr (ac, ae, ab, ab)))
def zbT (s_bytes : List UInt8) (l9 : List Int) (aa : List Int) (k2 : Int) (ac : List Flood) (ab : Int) (ag : Int) (ah : Int) : M ((Int × Int × Int × (List Flood)) ⊕ ((List Flood) × (List Flood) × Int × Int)) :=
  M.bind (M.iter (zaN s_bytes l9) (ag, ah, aa.getD (Int.toNat ab) 0, [])) fun (ai, aj, ak, ae) =>
  M.grd (decide ((ac.length + ([(⟨(aa.getD (Int.toNat ab) 0 : Int), ae⟩ : Flood)]).length) * 32 <= 140737488355328)) <|
  M.grd (decide ((-9223372036854775808 : Int) <= (k2 - 1)) && decide ((k2 - 1) <= (9223372036854775807 : Int))) <|
  M.pure (.inl (ai, aj, k2 - 1, ac ++ ([(⟨(aa.getD (Int.toNat ab) 0 : Int), ae⟩ : Flood)])))
def zbo (s_bytes : List UInt8) (l9 : List Int) (aa : List Int) : (Int × Int × Int × (List Flood)) -> M ((Int × Int × Int × (List Flood)) ⊕ ((List Flood) × (List Flood) × Int × Int)) := fun (ae, ag, k2, ab) =>
  bif decide (0 < k2) then (
  M.bind (zac s_bytes ae ag (aa.length : Int)) fun (ac, ah, ai) =>
  M.grd (decide ((0 : Int) <= ac) && decide (ac < (aa.length : Int))) <|
  zbT s_bytes l9 aa k2 ab ac ah ai)
  else (
  M.pure (.inr (ab, ab, ae, ag)))
def zcg (s_bytes : List UInt8) (l8 : List Span) (l9 : List Int) (aa : List Int) (ac : List Town) (ab : Int) (ae : Int) (ag : Int) (ah : Int) : M ((List Int) × (List Span) × (List Int) × (List Town) × Int × Int × (List Flood) × Int × Int) :=
  M.bind (zac s_bytes ag ah 10) fun (ai, aj, ak) =>
  M.bind (M.iter (zbo s_bytes l9 aa) (aj, ak, ai, [])) fun (aq, al, am, ao) =>
  M.pure (l9, l8, aa, ac, ab, (ab + ae), al, am, ao)
def zaH (s_bytes : List UInt8) (r2 : Int) (s6 : Int) (s7 : Int) (l8 : List Span) (l9 : List Int) (ac : List Int) : M ((List Int) × (List Span) × (List Int) × (List Town) × Int × Int × (List Flood) × Int × Int) :=
  M.bind (zac s_bytes s6 s7 8) fun (r8, ae, ag) =>
  M.bind (M.iter (zbL s_bytes r2) (ae, ag, r8, [])) fun (ah, ai, aq, aj) =>
  M.bind (zac s_bytes ah ai 3) fun (aa, ak, al) =>
  M.bind (zac s_bytes ak al 3) fun (ab, am, ao) =>
  M.grd (decide ((-9223372036854775808 : Int) <= (aa + ab)) && decide ((aa + ab) <= (9223372036854775807 : Int))) <|
  zcg s_bytes l8 l9 ac aj aa ab am ao
def zck (s_bytes : List UInt8) (s_used : Int) (s_mix : Int) (most : Int) : M ((List Int) × (List Span) × (List Int) × (List Town) × Int × Int × (List Flood) × Int × Int) :=
  M.bind (za6 s_bytes s_used s_mix 1 most) fun (r2, q1, q2) =>
  M.bind (M.iter (za5 s_bytes r2) (q1, q2, 0, [], [], [])) fun (s6, s7, l4, l5, l6, l7, l8, l9) =>
  bif (l7.length : Int) == 0 then (
  zaH s_bytes r2 s6 s7 l8 l9 ([(0 : Int)]))
  else (
  zaH s_bytes r2 s6 s7 l8 l9 l7)
theorem zdK {R : List Chunk} {ac : Nat} {cn : Cells} {aH : Value} (s_bytes : List UInt8) (s_used : Int) (s_mix : Int) (most : Int) (ao : Reads R cn) (aq : Sl cn aH s_bytes) {r : ((List Int) × (List Span) × (List Int) × (List Town) × Int × Int × (List Flood) × Int × Int)} (hM : (zck s_bytes s_used s_mix most).Ends r) (w : World) (H : St w w [cBlk ac [aH, I s_used, I s_mix] 71] R) : Ret Try.prog 8 #[Pq ac, I most] w fun v w' => ∃ (y0 : List Int) (y1 : List Span) (y2 : List Int) (y3 : List Town) (y4 : Int) (y5 : Int) (y6 : List Flood) (y7 : Int) (y8 : Int) (u0 : Value) (u1 : Value) (u2 : Value) (u3 : Value) (u4 : Value) (rr5 : List (Raw 1)) (co : Base), (y0, y1, y2, y3, y4, y5, y6, y7, y8) = r /\ v = .agg #[u0, u1, u2, u3, I y4, I y5, u4] /\ St w w' [cOwn (α := Int) 3 u0 y0, cOwn (α := Span) 27 u1 y1, cOwn (α := Int) 3 u2 y2, cOwn (α := Town) 54 u3 y3, cOwn (α := Raw 1) 67 u4 rr5, cRo co, cBlk ac [aH, I y7, I y8] 71] R /\ RepR (α := Flood) co.cells rr5 y6 := by
 refine ret_of_W Try.func8 rfl rfl rfl ?_
 refine W.seq ?_
 refine W.region rfl ?_
 refine t_alloc (cs := [.slice none 0 0, .slice none 0 0, .slice none 0 0, .slice none 0 0, I 0, I 0, .slice none 0 0]) H Al30 rfl ?_
 intro aB gp H
 refine s_nil ?_
 refine W.seq ?_
 refine W.region rfl ?_
 refine t_alloc (cs := [.slice none 0 0, .slice none 0 0, .slice none 0 0, .slice none 0 0, I 0, I 0, .slice none 0 0]) H Al30 rfl ?_
 intro aa gq H
 refine s_nil ?_
 refine W.seq ?_
 refine W.region rfl ?_
 refine zM (Pq ac) rfl ?_
 refine zM (I most) rfl ?_
 obtain ⟨gr, c0, hM⟩ := M.e_bind hM
 refine s_call cf27 [Pq ac, I 1, I most] rfl (zaQ s_bytes s_used s_mix 1 most (ao.app _) aq c0 _ ((H.pk [2, 0, 1]).gt 2)) ?_
 rintro vq gu ⟨r2, q1, q2, c6, hvq, ab⟩
 subst c6
 subst vq
 try dsimp only at hM
 replace H := H.pk [2, 0, 1] |>.bk ab
 clear ab
 refine zA (I r2) rfl ?_
 refine s_nil ?_
 refine W.seq ?_
 refine W.seq ?_
 refine W.region rfl ?_
 refine zA (I 0) rfl ?_
 refine s_nil ?_
 refine W.block ?_
 replace H := H.nilOwn (α := Int) 3
 replace H := H.nilOwn (α := Span) 27
 replace H := H.nilOwn (α := Int) 3
 obtain ⟨c7, bB, c8⟩ := M.e_bind hM
 obtain ⟨bC, bB⟩ := M.e_iter bB
 refine W.loop (fun m σ W => ∃ (s4 : Int) (s5 : Int) (i : Nat) (l : List Int) (l2 : List Span) (l3 : List Int) (ae : Value) (aj : Value) (aE : Value) (ρ : Env), σ = upds ρ [(0, Pq ac), (4, Pq aB), (5, Pq aa), (6, I r2), (7, I (i : Int))] /\ M.iterN (za5 s_bytes r2) m (s4, s5, i, l, l2, l3) = some c7 /\ St w W [cOwn (α := Int) 3 aE l3, cOwn (α := Span) 27 aj l2, cOwn (α := Int) 3 ae l, cBlk ac [aH, I s4, I s5] 71, cBlk aa [ae, aj, aE, .slice none 0 0, I 0, I 0, .slice none 0 0] 30, cBlk aB [.slice none 0 0, .slice none 0 0, .slice none 0 0, .slice none 0 0, I 0, I 0, .slice none 0 0] 30] R) ?_ ?_
 ·exact ⟨_, q1, q2, 0, [], [], [], (.slice none 0 0), (.slice none 0 0), (.slice none 0 0), _, upds_of _ _ ⟨rfl, rfl, rfl, rfl, rfl, trivial⟩, bB, H⟩
 rintro gv σ gw ⟨s4, s5, i, l, l2, l3, ae, aj, aE, ρ, rfl, cp, H⟩
 obtain ⟨bD, bE, cq, hM, br⟩ := M.e_iterN cp
 simp only [za5] at hM
 clear cp
 refine W.seq ?_
 refine W.seq ?_
 refine W.region rfl ?_
 refine zM (I (i : Int)) rfl ?_
 refine zM (I r2) rfl ?_
 refine zC (i : Int) r2 (decide ((i : Int) < r2)) rfl rfl rfl ?_
 refine s_nil ?_
 refine W.cond (decide ((i : Int) < r2)) rfl (fun bi => ?_) (fun bi => ?_)
 ·replace hM := M.e_t hM bi
  simp only [qy1, qy2, qy3, qy4, qy5, qy6, ne_eq, qy7] at bi
  refine W.skip ?_
  refine W.seq ?_
  refine W.block ?_
  refine W.seq ?_
  refine W.region rfl ?_
  refine zA (I (-1)) rfl ?_
  refine s_nil ?_
  refine W.seqJ (fun σ W => ∃ (s2 : Int) (s3 : Int) (down : Int) (ρ : Env), σ = upds ρ [(0, Pq ac), (4, Pq aB), (5, Pq aa), (6, I r2), (7, I (i : Int)), (8, I down)] /\ (zao s_bytes i l l2 l3 s2 s3 down).Ends cq /\ St w W [cBlk ac [aH, I s2, I s3] 71, cOwn (α := Int) 3 aE l3, cOwn (α := Span) 27 aj l2, cOwn (α := Int) 3 ae l, cBlk aa [ae, aj, aE, .slice none 0 0, I 0, I 0, .slice none 0 0] 30, cBlk aB [.slice none 0 0, .slice none 0 0, .slice none 0 0, .slice none 0 0, I 0, I 0, .slice none 0 0] 30] R) ?_ ?_
  ·skip
   refine W.seq ?_
   refine W.region rfl ?_
   refine zM (I (i : Int)) rfl ?_
   obtain ⟨c9, hM⟩ := M.e_grd hM
   simp only [Bool.and_eq_true, decide_eq_true_eq] at c9
   refine zR (i : Int) 1 ((i : Int) + 1) rfl rfl rfl (by omega) ?_
   refine zM (I r2) rfl ?_
   refine zC ((i : Int) + 1) r2 (decide (((i : Int) + 1) < r2)) rfl rfl rfl ?_
   refine zM (B (decide (((i : Int) + 1) < r2))) rfl ?_
   refine g_val (decide (((i : Int) + 1) < r2)) (gy_t rfl) (fun hg => x_mv (v := Pq ac) rfl) ?_
   refine g_splitV (decide (((i : Int) + 1) < r2)) (I 0) (gy_t rfl) (fun aI => ?_) (fun aI => ?_)
   ·replace hM := M.e_t hM aI
    obtain ⟨gx, da, hM⟩ := M.e_bind hM
    refine s_call cf10 [Pq ac, I 6] (lst2 (gd_of (c := decide (((i : Int) + 1) < r2)) aI (Pq ac)) rfl) (zab s_bytes s4 s5 6 (ao.app _) aq da _ ((H.pk [3, 0, 1, 2, 4, 5]).gt 5)) ?_
    rintro vq gy ⟨r3, ct, cu, db, hvq, ab⟩
    subst db
    subst vq
    try dsimp only at hM
    replace H := H.pk [3, 0, 1, 2, 4, 5] |>.bk ab
    clear ab
    refine g_val (decide (((i : Int) + 1) < r2)) (gy_t rfl) (fun hg => x_cmp (kd := .i64) (a := r3) (b := 0) (r := decide (0 < r3)) rfl rfl rfl) ?_
    refine s_val (x_pand (b := decide (((i : Int) + 1) < r2)) (r := decide (0 < r3)) rfl (fun hb => gd_of (c := decide (((i : Int) + 1) < r2)) (by first | exact hb | (rw [hb]; rfl) | simp_all) (B (decide (0 < r3)))) rfl) ?_
    refine s_nil ?_
    refine W.cond ((decide (((i : Int) + 1) < r2)) && (decide (0 < r3))) rfl (fun bF => ?_) (fun bF => ?_)
    ·replace hM := M.e_t hM bF
     refine W.region rfl ?_
     refine zM (Pq ac) rfl ?_
     refine zM (I (i : Int)) rfl ?_
     refine zR (i : Int) 1 ((i : Int) + 1) rfl rfl rfl (by omega) ?_
     refine zM (I r2) rfl ?_
     obtain ⟨dc, hM⟩ := M.e_grd hM
     simp only [Bool.and_eq_true, decide_eq_true_eq] at dc
     refine zR r2 1 (r2 - 1) rfl rfl rfl (by omega) ?_
     refine zM (I (i : Int)) rfl ?_
     obtain ⟨dd, hM⟩ := M.e_grd hM
     simp only [Bool.and_eq_true, decide_eq_true_eq] at dd
     refine zR (i : Int) 3 ((i : Int) + 3) rfl rfl rfl (by omega) ?_
     refine s_val (x_min (kd := .i64) (a := r2 - 1) (b := (i : Int) + 3) rfl rfl) ?_
     obtain ⟨gz, de, hM⟩ := M.e_bind hM
     refine s_call cf27 [Pq ac, I ((i : Int) + 1), I (min (r2 - 1) ((i : Int) + 3))] rfl (zaQ s_bytes ct cu ((i : Int) + 1) (min (r2 - 1) ((i : Int) + 3)) (ao.app _) aq de _ (H.gt 5)) ?_
     rintro vq gA ⟨r4, dg, di, dk, hvq, ab⟩
     subst dk
     subst vq
     try dsimp only at hM
     replace H := H.bk ab
     clear ab
     refine zA (I r4) rfl ?_
     refine s_nil ?_
     exact ⟨dg, di, r4, _, upds_of _ _ ⟨rfl, rfl, rfl, rfl, rfl, rfl, trivial⟩, hM, H⟩
    replace hM := M.e_f hM bF
    refine W.skip ?_
    exact ⟨ct, cu, -1, _, upds_of _ _ ⟨rfl, rfl, rfl, rfl, rfl, rfl, trivial⟩, hM, H⟩
   replace hM := M.e_f hM aI
   refine g_val (v := B false) (decide (((i : Int) + 1) < r2)) (gy_t rfl) (fun hg => Bool.noConfusion (aI.symm.trans hg)) ?_
   refine s_val (x_pand0 (b := decide (((i : Int) + 1) < r2)) rfl (fun hb => gd_of (c := decide (((i : Int) + 1) < r2)) (by first | exact hb | (rw [hb]; rfl) | simp_all) (B false)) rfl) ?_
   refine s_nil ?_
   refine W.cond false rfl (fun cw => ?_) (fun cw => ?_)
   ·skip
    exact absurd cw (by decide)
   skip
   refine W.skip ?_
   exact ⟨s4, s5, -1, _, upds_of _ _ ⟨rfl, rfl, rfl, rfl, rfl, rfl, trivial⟩, hM, (H.pk [3, 0, 1, 2, 4, 5])⟩
  rintro _ gB ⟨s2, s3, down, ρ, rfl, hM, H⟩
  unfold zao at hM
  refine W.seq ?_
  refine W.region rfl ?_
  refine zM (Pq ac) rfl ?_
  obtain ⟨gC, dm, hM⟩ := M.e_bind hM
  refine s_call cf10 [Pq ac, I 9] rfl (zab s_bytes s2 s3 9 (ao.app _) aq dm _ (H.gt 5)) ?_
  rintro vq gD ⟨r5, aL, aM, dq, hvq, ab⟩
  subst dq
  subst vq
  try dsimp only at hM
  replace H := H.bk ab
  clear ab
  refine zA (I r5) rfl ?_
  refine s_nil ?_
  refine W.seqJ (fun σ W => ∃ (r6 : Int) (ax : Int) (ay : Int) (cx : Value) (cy : Value) (aX : Value) (aY : Value) (ρ : Env), σ = upds ρ [(0, Pq ac), (4, Pq aB), (5, Pq aa), (6, I r2), (7, I (i : Int))] /\ (zb5 s_bytes i l l2 l3 down r5 r6 ax ay).Ends cq /\ St w W [cOwn (α := Span) 27 cx ([(⟨(r5 : Int), (r5 + r6 : Int)⟩ : Span)]), cBlk ac [aH, I ax, I ay] 71, cOwn (α := Int) 3 cy ([(down : Int)]), cOwn (α := Int) 3 aE l3, cOwn (α := Span) 27 aX (l2 ++ ([(⟨(r5 : Int), (r5 + r6 : Int)⟩ : Span)])), cOwn (α := Int) 3 aY (l ++ ([(down : Int)])), cBlk aa [aY, aX, aE, .slice none 0 0, I 0, I 0, .slice none 0 0] 30, cBlk aB [.slice none 0 0, .slice none 0 0, .slice none 0 0, .slice none 0 0, I 0, I 0, .slice none 0 0] 30] R) ?_ ?_
  ·skip
   refine W.drawT (fun W => St w W [cOwn (α := Int) 3 aE l3, cBlk aB [.slice none 0 0, .slice none 0 0, .slice none 0 0, .slice none 0 0, I 0, I 0, .slice none 0 0] 30] R) (.q 0 (.q 2 (.q 5 (.q 7 (.q 8 (.q 9 (.l3 1 (.l2 3 (.l2 4 (.l2 6 (.q 15 (.l 10 (.q 11 (.q 12 (.l 13 (.l 14 (.l 16 (.q 17 (.l 18 .nil))))))))) 10 (.q 11 (.q 12 (.l2 6 (.q 15 (.l 13 (.l 14 (.l 16 (.q 17 (.l 18 .nil)))))) 13 (.l 6 (.q 15 (.l 14 (.l 16 (.q 17 (.l 18 .nil)))))))))) 6 (.l 4 (.q 15 (.l 10 (.q 11 (.q 12 (.l 13 (.l 14 (.l 16 (.q 17 (.l 18 .nil))))))))))) 6 (.l 3 (.l 4 (.q 15 (.l 10 (.q 11 (.q 12 (.l 13 (.l 14 (.l 16 (.q 17 (.l 18 .nil)))))))))))) 3 (.l2 1 (.l2 4 (.l2 6 (.q 15 (.l 10 (.q 11 (.q 12 (.l 13 (.l 14 (.l 16 (.q 17 (.l 18 .nil))))))))) 10 (.q 11 (.q 12 (.l2 6 (.q 15 (.l 13 (.l 14 (.l 16 (.q 17 (.l 18 .nil)))))) 13 (.l 6 (.q 15 (.l 14 (.l 16 (.q 17 (.l 18 .nil)))))))))) 6 (.l 4 (.q 15 (.l 10 (.q 11 (.q 12 (.l 13 (.l 14 (.l 16 (.q 17 (.l 18 .nil))))))))))) 6 (.l 1 (.l 4 (.q 15 (.l 10 (.q 11 (.q 12 (.l 13 (.l 14 (.l 16 (.q 17 (.l 18 .nil)))))))))))) 6 (.l2 1 (.l 3 (.l 4 (.q 15 (.l 10 (.q 11 (.q 12 (.l 13 (.l 14 (.l 16 (.q 17 (.l 18 .nil))))))))))) 3 (.l 1 (.l 4 (.q 15 (.l 10 (.q 11 (.q 12 (.l 13 (.l 14 (.l 16 (.q 17 (.l 18 .nil))))))))))))))))))) mixed (by decide +kernel) rfl ?_
   intro gE aF
   replace H := H.ext aF
   clear aF
   refine ⟨(H.pk [1, 5]), ?_⟩
   refine t_q rfl (fun w' H => x_fa (a := Pq aa) (v := Pq aa) rfl (fa_blk (o := 0) Fd30_0 Sz23)) ?_
   refine t_q rfl (fun w' H => x_mv (v := I down) rfl) ?_
   refine t_q rfl (fun w' H => x_fa (a := Pq aa) (v := Oq aa 1) rfl (fa_blk (o := 0) Fd30_1 Sz24)) ?_
   refine t_q rfl (fun w' H => x_mv (v := I r5) rfl) ?_
   refine t_q rfl (fun w' H => x_mv (v := I r5) rfl) ?_
   refine t_q rfl (fun w' H => x_mv (v := Pq ac) rfl) ?_
   refine t_l3 rfl rfl rfl ?_ ?_ ?_
   ·skip
    refine s_val (x_ld (p := Pq aa) (v := ae) rfl (ldb_sc Sc23 (H.bl 4) rfl)) ?_
    have gF := Sl.cells (H.os 2)
    have gG := Sl.oc (H.os 2)
    have gH := Sl.cells (H.os 3)
    have gI := Sl.oc (H.os 3)
    refine s_nil ⟨(H.pk [1, 5]), ?_⟩
    refine t_l2 rfl rfl ?_ ?_
    ·skip
     refine t_bs (α := Int) T23 [I down] [(down : Int)] H rfl (.cons rfl (Flat.rep_enc _ (down : Int)) <| .nil) rfl rfl rfl ?_
     intro aZ gJ H
     have gK := Sl.cells (H.os 0)
     have gL := Sl.oc (H.os 0)
     refine s_nil ⟨(H.pk [2, 6]), ?_⟩
     refine t_l2 rfl rfl ?_ ?_
     ·skip
      obtain ⟨dr, hM⟩ := M.e_grd hM
      simp only [Bool.and_eq_true, decide_eq_true_eq] at dr
      refine t_app (α := Int) (k := 4) (l := l) (l2 := [(down : Int)]) (l' := l ++ ([(down : Int)])) (vy := aZ) T23 rfl H rfl rfl rfl (H.os 0) (H.ol 0) (rfl) (by first | omega | (simp only [List.length_nil] at *; omega)) ?_
      intro aN gM H
      replace H := H.nf
      have gN := Sl.cells (H.os 4)
      have gO := Sl.oc (H.os 4)
      refine s_nil ⟨(H.pk [2, 6]), ?_⟩
      refine t_l2 rfl rfl ?_ ?_
      ·skip
       refine s_val (x_ld (p := Oq aa 1) (v := aj) rfl (ldb_sc Sc24 (H.bl 5) rfl)) ?_
       refine s_nil ⟨(H.pk [2, 6]), ?_⟩
       refine t_q rfl (fun w' H => x_fa (a := Pq aa) (v := Pq aa) rfl (fa_blk (o := 0) Fd30_0 Sz23)) ?_
       refine t_l rfl ?_
       obtain ⟨gP, dt, hM⟩ := M.e_bind hM
       refine s_call cf10 [Pq ac, I 5] rfl (zab s_bytes aL aM 5 (ao.app _) aq dt _ ((H.pk [1, 0, 2, 3, 4, 5, 6]).gt 6)) ?_
       rintro vq gQ ⟨r6, ax, ay, du, hvq, ab⟩
       subst du
       subst vq
       try dsimp only at hM
       replace H := H.pk [1, 0, 2, 3, 4, 5, 6] |>.bk ab
       clear ab
       refine s_nil ⟨(H.pk [2, 6]), ?_⟩
       obtain ⟨dv, hM⟩ := M.e_grd hM
       simp only [Bool.and_eq_true, decide_eq_true_eq] at dv
       refine t_q rfl (fun w' H => x_ari (a := r5) (b := r6) (r := r5 + r6) rfl rfl rfl (by omega)) ?_
       refine t_q rfl (fun w' H => x_bld (ps := [(0, I r5), (1, I (r5 + r6))]) (zs := [I 0, I 0]) (L' := [I r5, I (r5 + r6)]) rfl Try.underlying27 Al27 rfl (Bd27 Try.underlying27) (.cons (cs := [I r5]) rfl rfl rfl rfl rfl <| .cons (cs := [I (r5 + r6)]) rfl rfl rfl rfl rfl <| .nil)) ?_
       refine t_l rfl ?_
       refine t_bs (α := Span) T24 [.agg #[I r5, I (r5 + r6)]] [(⟨(r5 : Int), (r5 + r6 : Int)⟩ : Span)] H rfl (.cons rfl (Flat.rep_enc _ (⟨(r5 : Int), (r5 + r6 : Int)⟩ : Span)) <| .nil) rfl rfl rfl ?_
       intro cz gR H
       have gS := Sl.cells (H.os 0)
       have gT := Sl.oc (H.os 0)
       refine s_nil ⟨(H.pk [3, 7]), ?_⟩
       refine t_l rfl ?_
       obtain ⟨dw, hM⟩ := M.e_grd hM
       simp only [Bool.and_eq_true, decide_eq_true_eq] at dw
       refine t_app (α := Span) (k := 4) (l := l2) (l2 := [(⟨(r5 : Int), (r5 + r6 : Int)⟩ : Span)]) (l' := l2 ++ ([(⟨(r5 : Int), (r5 + r6 : Int)⟩ : Span)])) (vy := cz) T24 rfl H rfl rfl rfl (H.os 0) (H.ol 0) (rfl) (by first | omega | (simp only [List.length_nil] at *; omega)) ?_
       intro bG gU H
       replace H := H.nf
       have gV := Sl.cells (H.os 4)
       have gW := Sl.oc (H.os 4)
       refine s_nil ⟨(H.pk [3, 7]), ?_⟩
       refine t_l rfl ?_
       refine t_sw 6 0 [aN] aN H rfl rfl Sz23 (Sl.cells (H.os 5)) rfl rfl (by simp only [List.all_cons, List.all_nil, Bool.true_and, Bool.and_true, Sl.oc (H.os 5)]; try rfl) ?_
       intro gX H
       refine s_nil ⟨(H.pk [3, 7]), ?_⟩
       refine t_q rfl (fun w' H => x_fa (a := Pq aa) (v := Oq aa 1) rfl (fa_blk (o := 0) Fd30_1 Sz24)) ?_
       refine t_l rfl ?_
       refine t_sw 6 1 [bG] bG H rfl rfl Sz24 (Sl.cells (H.os 4)) rfl rfl (by simp only [List.all_cons, List.all_nil, Bool.true_and, Bool.and_true, Sl.oc (H.os 4)]; try rfl) ?_
       intro gY H
       refine s_nil ⟨(H.pk [3, 7]), ?_⟩
       refine t_nil ?_
       exact ⟨r6, ax, ay, cz, aZ, bG, aN, _, upds_of _ _ ⟨rfl, rfl, rfl, rfl, rfl, trivial⟩, hM, H⟩
      skip
      obtain ⟨gZ, dx, hM⟩ := M.e_bind hM
      refine s_call cf10 [Pq ac, I 5] rfl (zab s_bytes aL aM 5 (ao.app _) aq dx _ ((H.pk [1, 0, 2, 3, 4, 5, 6]).gt 6)) ?_
      rintro vq g0 ⟨r6, ax, ay, dy, hvq, ab⟩
      subst dy
      subst vq
      try dsimp only at hM
      replace H := H.pk [1, 0, 2, 3, 4, 5, 6] |>.bk ab
      clear ab
      refine s_nil ⟨(H.pk [2, 6]), ?_⟩
      obtain ⟨dz, hM⟩ := M.e_grd hM
      simp only [Bool.and_eq_true, decide_eq_true_eq] at dz
      refine t_q rfl (fun w' H => x_ari (a := r5) (b := r6) (r := r5 + r6) rfl rfl rfl (by omega)) ?_
      refine t_q rfl (fun w' H => x_bld (ps := [(0, I r5), (1, I (r5 + r6))]) (zs := [I 0, I 0]) (L' := [I r5, I (r5 + r6)]) rfl Try.underlying27 Al27 rfl (Bd27 Try.underlying27) (.cons (cs := [I r5]) rfl rfl rfl rfl rfl <| .cons (cs := [I (r5 + r6)]) rfl rfl rfl rfl rfl <| .nil)) ?_
      obtain ⟨dA, hM⟩ := M.e_grd hM
      simp only [Bool.and_eq_true, decide_eq_true_eq] at dA
      refine t_l2 rfl rfl ?_ ?_
      ·skip
       refine s_val (x_ld (p := Oq aa 1) (v := aj) rfl (ldb_sc Sc24 (H.bl 5) rfl)) ?_
       refine s_nil ⟨(H.pk [2, 6]), ?_⟩
       refine t_q rfl (fun w' H => x_fa (a := Pq aa) (v := Pq aa) rfl (fa_blk (o := 0) Fd30_0 Sz23)) ?_
       refine t_l rfl ?_
       refine t_bs (α := Span) T24 [.agg #[I r5, I (r5 + r6)]] [(⟨(r5 : Int), (r5 + r6 : Int)⟩ : Span)] H rfl (.cons rfl (Flat.rep_enc _ (⟨(r5 : Int), (r5 + r6 : Int)⟩ : Span)) <| .nil) rfl rfl rfl ?_
       intro cA hG H
       have hJ := Sl.cells (H.os 0)
       have hN := Sl.oc (H.os 0)
       refine s_nil ⟨(H.pk [3, 7]), ?_⟩
       refine t_l rfl ?_
       refine t_app (α := Span) (k := 4) (l := l2) (l2 := [(⟨(r5 : Int), (r5 + r6 : Int)⟩ : Span)]) (l' := l2 ++ ([(⟨(r5 : Int), (r5 + r6 : Int)⟩ : Span)])) (vy := cA) T24 rfl H rfl rfl rfl (H.os 0) (H.ol 0) (rfl) (by first | omega | (simp only [List.length_nil] at *; omega)) ?_
       intro bH hO H
       replace H := H.nf
       have hP := Sl.cells (H.os 4)
       have hZ := Sl.oc (H.os 4)
       refine s_nil ⟨(H.pk [3, 7]), ?_⟩
       refine t_l rfl ?_
       refine t_sw 6 0 [aN] aN H rfl rfl Sz23 (Sl.cells (H.os 5)) rfl rfl (by simp only [List.all_cons, List.all_nil, Bool.true_and, Bool.and_true, Sl.oc (H.os 5)]; try rfl) ?_
       intro ia H
       refine s_nil ⟨(H.pk [3, 7]), ?_⟩
       refine t_q rfl (fun w' H => x_fa (a := Pq aa) (v := Oq aa 1) rfl (fa_blk (o := 0) Fd30_1 Sz24)) ?_
       refine t_l rfl ?_
       refine t_sw 6 1 [bH] bH H rfl rfl Sz24 (Sl.cells (H.os 4)) rfl rfl (by simp only [List.all_cons, List.all_nil, Bool.true_and, Bool.and_true, Sl.oc (H.os 4)]; try rfl) ?_
       intro ib H
       refine s_nil ⟨(H.pk [3, 7]), ?_⟩
       refine t_nil ?_
       exact ⟨r6, ax, ay, cA, aZ, bH, aN, _, upds_of _ _ ⟨rfl, rfl, rfl, rfl, rfl, trivial⟩, hM, H⟩
      skip
      refine t_bs (α := Span) T24 [.agg #[I r5, I (r5 + r6)]] [(⟨(r5 : Int), (r5 + r6 : Int)⟩ : Span)] H rfl (.cons rfl (Flat.rep_enc _ (⟨(r5 : Int), (r5 + r6 : Int)⟩ : Span)) <| .nil) rfl rfl rfl ?_
      intro cB ic H
      have ie := Sl.cells (H.os 0)
      have ig := Sl.oc (H.os 0)
      refine s_nil ⟨(H.pk [3, 7]), ?_⟩
      refine t_l rfl ?_
      refine s_val (x_ld (p := Oq aa 1) (v := aj) rfl (ldb_sc Sc24 (H.bl 6) rfl)) ?_
      refine s_nil ⟨(H.pk [3, 7]), ?_⟩
      refine t_q rfl (fun w' H => x_fa (a := Pq aa) (v := Pq aa) rfl (fa_blk (o := 0) Fd30_0 Sz23)) ?_
      refine t_l rfl ?_
      refine t_app (α := Span) (k := 4) (l := l2) (l2 := [(⟨(r5 : Int), (r5 + r6 : Int)⟩ : Span)]) (l' := l2 ++ ([(⟨(r5 : Int), (r5 + r6 : Int)⟩ : Span)])) (vy := cB) T24 rfl H rfl rfl rfl (H.os 0) (H.ol 0) (rfl) (by first | omega | (simp only [List.length_nil] at *; omega)) ?_
      intro bI ii H
      replace H := H.nf
      have ij := Sl.cells (H.os 4)
      have ik := Sl.oc (H.os 4)
      refine s_nil ⟨(H.pk [3, 7]), ?_⟩
      refine t_l rfl ?_
      refine t_sw 6 0 [aN] aN H rfl rfl Sz23 (Sl.cells (H.os 5)) rfl rfl (by simp only [List.all_cons, List.all_nil, Bool.true_and, Bool.and_true, Sl.oc (H.os 5)]; try rfl) ?_
      intro il H
      refine s_nil ⟨(H.pk [3, 7]), ?_⟩
      refine t_q rfl (fun w' H => x_fa (a := Pq aa) (v := Oq aa 1) rfl (fa_blk (o := 0) Fd30_1 Sz24)) ?_
      refine t_l rfl ?_
      refine t_sw 6 1 [bI] bI H rfl rfl Sz24 (Sl.cells (H.os 4)) rfl rfl (by simp only [List.all_cons, List.all_nil, Bool.true_and, Bool.and_true, Sl.oc (H.os 4)]; try rfl) ?_
      intro im H
      refine s_nil ⟨(H.pk [3, 7]), ?_⟩
      refine t_nil ?_
      exact ⟨r6, ax, ay, cB, aZ, bI, aN, _, upds_of _ _ ⟨rfl, rfl, rfl, rfl, rfl, trivial⟩, hM, H⟩
     skip
     refine s_val (x_ld (p := Oq aa 1) (v := aj) rfl (ldb_sc Sc24 (H.bl 5) rfl)) ?_
     refine s_nil ⟨(H.pk [2, 6]), ?_⟩
     refine t_l rfl ?_
     obtain ⟨dB, hM⟩ := M.e_grd hM
     simp only [Bool.and_eq_true, decide_eq_true_eq] at dB
     refine t_app (α := Int) (k := 4) (l := l) (l2 := [(down : Int)]) (l' := l ++ ([(down : Int)])) (vy := aZ) T23 rfl H rfl rfl rfl (H.os 0) (H.ol 0) (rfl) (by first | omega | (simp only [List.length_nil] at *; omega)) ?_
     intro bJ io H
     replace H := H.nf
     have ip := Sl.cells (H.os 4)
     have iq := Sl.oc (H.os 4)
     refine s_nil ⟨(H.pk [2, 6]), ?_⟩
     refine t_q rfl (fun w' H => x_fa (a := Pq aa) (v := Pq aa) rfl (fa_blk (o := 0) Fd30_0 Sz23)) ?_
     refine t_l rfl ?_
     obtain ⟨ir, dC, hM⟩ := M.e_bind hM
     refine s_call cf10 [Pq ac, I 5] rfl (zab s_bytes aL aM 5 (ao.app _) aq dC _ ((H.pk [1, 0, 2, 3, 4, 5, 6]).gt 6)) ?_
     rintro vq iu ⟨r6, ax, ay, dD, hvq, ab⟩
     subst dD
     subst vq
     try dsimp only at hM
     replace H := H.pk [1, 0, 2, 3, 4, 5, 6] |>.bk ab
     clear ab
     refine s_nil ⟨(H.pk [2, 6]), ?_⟩
     obtain ⟨dE, hM⟩ := M.e_grd hM
     simp only [Bool.and_eq_true, decide_eq_true_eq] at dE
     refine t_q rfl (fun w' H => x_ari (a := r5) (b := r6) (r := r5 + r6) rfl rfl rfl (by omega)) ?_
     refine t_q rfl (fun w' H => x_bld (ps := [(0, I r5), (1, I (r5 + r6))]) (zs := [I 0, I 0]) (L' := [I r5, I (r5 + r6)]) rfl Try.underlying27 Al27 rfl (Bd27 Try.underlying27) (.cons (cs := [I r5]) rfl rfl rfl rfl rfl <| .cons (cs := [I (r5 + r6)]) rfl rfl rfl rfl rfl <| .nil)) ?_
     refine t_l rfl ?_
     refine t_bs (α := Span) T24 [.agg #[I r5, I (r5 + r6)]] [(⟨(r5 : Int), (r5 + r6 : Int)⟩ : Span)] H rfl (.cons rfl (Flat.rep_enc _ (⟨(r5 : Int), (r5 + r6 : Int)⟩ : Span)) <| .nil) rfl rfl rfl ?_
     intro cC iw H
     have iy := Sl.cells (H.os 0)
     have iz := Sl.oc (H.os 0)
     refine s_nil ⟨(H.pk [3, 7]), ?_⟩
     refine t_l rfl ?_
     obtain ⟨dF, hM⟩ := M.e_grd hM
     simp only [Bool.and_eq_true, decide_eq_true_eq] at dF
     refine t_app (α := Span) (k := 4) (l := l2) (l2 := [(⟨(r5 : Int), (r5 + r6 : Int)⟩ : Span)]) (l' := l2 ++ ([(⟨(r5 : Int), (r5 + r6 : Int)⟩ : Span)])) (vy := cC) T24 rfl H rfl rfl rfl (H.os 0) (H.ol 0) (rfl) (by first | omega | (simp only [List.length_nil] at *; omega)) ?_
     intro bK iA H
     replace H := H.nf
     have iB := Sl.cells (H.os 4)
     have iC := Sl.oc (H.os 4)
     refine s_nil ⟨(H.pk [3, 7]), ?_⟩
     refine t_l rfl ?_
     refine t_sw 6 0 [bJ] bJ H rfl rfl Sz23 (Sl.cells (H.os 5)) rfl rfl (by simp only [List.all_cons, List.all_nil, Bool.true_and, Bool.and_true, Sl.oc (H.os 5)]; try rfl) ?_
     intro iD H
     refine s_nil ⟨(H.pk [3, 7]), ?_⟩
     refine t_q rfl (fun w' H => x_fa (a := Pq aa) (v := Oq aa 1) rfl (fa_blk (o := 0) Fd30_1 Sz24)) ?_
     refine t_l rfl ?_
     refine t_sw 6 1 [bK] bK H rfl rfl Sz24 (Sl.cells (H.os 4)) rfl rfl (by simp only [List.all_cons, List.all_nil, Bool.true_and, Bool.and_true, Sl.oc (H.os 4)]; try rfl) ?_
     intro iE H
     refine s_nil ⟨(H.pk [3, 7]), ?_⟩
     refine t_nil ?_
     exact ⟨r6, ax, ay, cC, aZ, bK, bJ, _, upds_of _ _ ⟨rfl, rfl, rfl, rfl, rfl, trivial⟩, hM, H⟩
    skip
    refine s_val (x_ld (p := Oq aa 1) (v := aj) rfl (ldb_sc Sc24 (H.bl 4) rfl)) ?_
    refine s_nil ⟨(H.pk [1, 5]), ?_⟩
    refine t_l rfl ?_
    refine t_bs (α := Int) T23 [I down] [(down : Int)] H rfl (.cons rfl (Flat.rep_enc _ (down : Int)) <| .nil) rfl rfl rfl ?_
    intro cD iF H
    have iG := Sl.cells (H.os 0)
    have iH := Sl.oc (H.os 0)
    refine s_nil ⟨(H.pk [2, 6]), ?_⟩
    refine t_l rfl ?_
    obtain ⟨dG, hM⟩ := M.e_grd hM
    simp only [Bool.and_eq_true, decide_eq_true_eq] at dG
    refine t_app (α := Int) (k := 4) (l := l) (l2 := [(down : Int)]) (l' := l ++ ([(down : Int)])) (vy := cD) T23 rfl H rfl rfl rfl (H.os 0) (H.ol 0) (rfl) (by first | omega | (simp only [List.length_nil] at *; omega)) ?_
    intro bL iI H
    replace H := H.nf
    have iJ := Sl.cells (H.os 4)
    have iK := Sl.oc (H.os 4)
    refine s_nil ⟨(H.pk [2, 6]), ?_⟩
    refine t_q rfl (fun w' H => x_fa (a := Pq aa) (v := Pq aa) rfl (fa_blk (o := 0) Fd30_0 Sz23)) ?_
    refine t_l rfl ?_
    obtain ⟨iL, dH, hM⟩ := M.e_bind hM
    refine s_call cf10 [Pq ac, I 5] rfl (zab s_bytes aL aM 5 (ao.app _) aq dH _ ((H.pk [1, 0, 2, 3, 4, 5, 6]).gt 6)) ?_
    rintro vq iM ⟨r6, ax, ay, dI, hvq, ab⟩
    subst dI
    subst vq
    try dsimp only at hM
    replace H := H.pk [1, 0, 2, 3, 4, 5, 6] |>.bk ab
    clear ab
    refine s_nil ⟨(H.pk [2, 6]), ?_⟩
    obtain ⟨dJ, hM⟩ := M.e_grd hM
    simp only [Bool.and_eq_true, decide_eq_true_eq] at dJ
    refine t_q rfl (fun w' H => x_ari (a := r5) (b := r6) (r := r5 + r6) rfl rfl rfl (by omega)) ?_
    refine t_q rfl (fun w' H => x_bld (ps := [(0, I r5), (1, I (r5 + r6))]) (zs := [I 0, I 0]) (L' := [I r5, I (r5 + r6)]) rfl Try.underlying27 Al27 rfl (Bd27 Try.underlying27) (.cons (cs := [I r5]) rfl rfl rfl rfl rfl <| .cons (cs := [I (r5 + r6)]) rfl rfl rfl rfl rfl <| .nil)) ?_
    refine t_l rfl ?_
    refine t_bs (α := Span) T24 [.agg #[I r5, I (r5 + r6)]] [(⟨(r5 : Int), (r5 + r6 : Int)⟩ : Span)] H rfl (.cons rfl (Flat.rep_enc _ (⟨(r5 : Int), (r5 + r6 : Int)⟩ : Span)) <| .nil) rfl rfl rfl ?_
    intro cE iN H
    have iO := Sl.cells (H.os 0)
    have iP := Sl.oc (H.os 0)
    refine s_nil ⟨(H.pk [3, 7]), ?_⟩
    refine t_l rfl ?_
    obtain ⟨dK, hM⟩ := M.e_grd hM
    simp only [Bool.and_eq_true, decide_eq_true_eq] at dK
    refine t_app (α := Span) (k := 4) (l := l2) (l2 := [(⟨(r5 : Int), (r5 + r6 : Int)⟩ : Span)]) (l' := l2 ++ ([(⟨(r5 : Int), (r5 + r6 : Int)⟩ : Span)])) (vy := cE) T24 rfl H rfl rfl rfl (H.os 0) (H.ol 0) (rfl) (by first | omega | (simp only [List.length_nil] at *; omega)) ?_
    intro bM iQ H
    replace H := H.nf
    have iR := Sl.cells (H.os 4)
    have iS := Sl.oc (H.os 4)
    refine s_nil ⟨(H.pk [3, 7]), ?_⟩
    refine t_l rfl ?_
    refine t_sw 6 0 [bL] bL H rfl rfl Sz23 (Sl.cells (H.os 5)) rfl rfl (by simp only [List.all_cons, List.all_nil, Bool.true_and, Bool.and_true, Sl.oc (H.os 5)]; try rfl) ?_
    intro iT H
    refine s_nil ⟨(H.pk [3, 7]), ?_⟩
    refine t_q rfl (fun w' H => x_fa (a := Pq aa) (v := Oq aa 1) rfl (fa_blk (o := 0) Fd30_1 Sz24)) ?_
    refine t_l rfl ?_
    refine t_sw 6 1 [bM] bM H rfl rfl Sz24 (Sl.cells (H.os 4)) rfl rfl (by simp only [List.all_cons, List.all_nil, Bool.true_and, Bool.and_true, Sl.oc (H.os 4)]; try rfl) ?_
    intro iU H
    refine s_nil ⟨(H.pk [3, 7]), ?_⟩
    refine t_nil ?_
    exact ⟨r6, ax, ay, cE, cD, bM, bL, _, upds_of _ _ ⟨rfl, rfl, rfl, rfl, rfl, trivial⟩, hM, H⟩
   ·skip
    refine t_bs (α := Int) T23 [I down] [(down : Int)] H rfl (.cons rfl (Flat.rep_enc _ (down : Int)) <| .nil) rfl rfl rfl ?_
    intro aP iV H
    have iW := Sl.cells (H.os 0)
    have iX := Sl.oc (H.os 0)
    have iY := Sl.cells (H.os 3)
    have iZ := Sl.oc (H.os 3)
    have i5 := Sl.cells (H.os 4)
    have i6 := Sl.oc (H.os 4)
    refine s_nil ⟨(H.pk [2, 6]), ?_⟩
    refine t_l2 rfl rfl ?_ ?_
    ·skip
     refine s_val (x_ld (p := Pq aa) (v := ae) rfl (ldb_sc Sc23 (H.bl 5) rfl)) ?_
     refine s_nil ⟨(H.pk [2, 6]), ?_⟩
     refine t_l2 rfl rfl ?_ ?_
     ·skip
      obtain ⟨dL, hM⟩ := M.e_grd hM
      simp only [Bool.and_eq_true, decide_eq_true_eq] at dL
      refine t_app (α := Int) (k := 4) (l := l) (l2 := [(down : Int)]) (l' := l ++ ([(down : Int)])) (vy := aP) T23 rfl H rfl rfl rfl (H.os 0) (H.ol 0) (rfl) (by first | omega | (simp only [List.length_nil] at *; omega)) ?_
      intro aO i7 H
      replace H := H.nf
      have i8 := Sl.cells (H.os 4)
      have i9 := Sl.oc (H.os 4)
      refine s_nil ⟨(H.pk [2, 6]), ?_⟩
      refine t_l2 rfl rfl ?_ ?_
      ·skip
       refine s_val (x_ld (p := Oq aa 1) (v := aj) rfl (ldb_sc Sc24 (H.bl 5) rfl)) ?_
       refine s_nil ⟨(H.pk [2, 6]), ?_⟩
       refine t_q rfl (fun w' H => x_fa (a := Pq aa) (v := Pq aa) rfl (fa_blk (o := 0) Fd30_0 Sz23)) ?_
       refine t_l rfl ?_
       obtain ⟨ja, dM, hM⟩ := M.e_bind hM
       refine s_call cf10 [Pq ac, I 5] rfl (zab s_bytes aL aM 5 (ao.app _) aq dM _ ((H.pk [1, 0, 2, 3, 4, 5, 6]).gt 6)) ?_
       rintro vq jb ⟨r6, ax, ay, dN, hvq, ab⟩
       subst dN
       subst vq
       try dsimp only at hM
       replace H := H.pk [1, 0, 2, 3, 4, 5, 6] |>.bk ab
       clear ab
       refine s_nil ⟨(H.pk [2, 6]), ?_⟩
       obtain ⟨dO, hM⟩ := M.e_grd hM
       simp only [Bool.and_eq_true, decide_eq_true_eq] at dO
       refine t_q rfl (fun w' H => x_ari (a := r5) (b := r6) (r := r5 + r6) rfl rfl rfl (by omega)) ?_
       refine t_q rfl (fun w' H => x_bld (ps := [(0, I r5), (1, I (r5 + r6))]) (zs := [I 0, I 0]) (L' := [I r5, I (r5 + r6)]) rfl Try.underlying27 Al27 rfl (Bd27 Try.underlying27) (.cons (cs := [I r5]) rfl rfl rfl rfl rfl <| .cons (cs := [I (r5 + r6)]) rfl rfl rfl rfl rfl <| .nil)) ?_
       refine t_l rfl ?_
       refine t_bs (α := Span) T24 [.agg #[I r5, I (r5 + r6)]] [(⟨(r5 : Int), (r5 + r6 : Int)⟩ : Span)] H rfl (.cons rfl (Flat.rep_enc _ (⟨(r5 : Int), (r5 + r6 : Int)⟩ : Span)) <| .nil) rfl rfl rfl ?_
       intro cF jc H
       have jd := Sl.cells (H.os 0)
       have je := Sl.oc (H.os 0)
       refine s_nil ⟨(H.pk [3, 7]), ?_⟩
       refine t_l rfl ?_
       obtain ⟨dP, hM⟩ := M.e_grd hM
       simp only [Bool.and_eq_true, decide_eq_true_eq] at dP
       refine t_app (α := Span) (k := 4) (l := l2) (l2 := [(⟨(r5 : Int), (r5 + r6 : Int)⟩ : Span)]) (l' := l2 ++ ([(⟨(r5 : Int), (r5 + r6 : Int)⟩ : Span)])) (vy := cF) T24 rfl H rfl rfl rfl (H.os 0) (H.ol 0) (rfl) (by first | omega | (simp only [List.length_nil] at *; omega)) ?_
       intro bN jf H
       replace H := H.nf
       have jg := Sl.cells (H.os 4)
       have jh := Sl.oc (H.os 4)
       refine s_nil ⟨(H.pk [3, 7]), ?_⟩
       refine t_l rfl ?_
       refine t_sw 6 0 [aO] aO H rfl rfl Sz23 (Sl.cells (H.os 5)) rfl rfl (by simp only [List.all_cons, List.all_nil, Bool.true_and, Bool.and_true, Sl.oc (H.os 5)]; try rfl) ?_
       intro ji H
       refine s_nil ⟨(H.pk [3, 7]), ?_⟩
       refine t_q rfl (fun w' H => x_fa (a := Pq aa) (v := Oq aa 1) rfl (fa_blk (o := 0) Fd30_1 Sz24)) ?_
       refine t_l rfl ?_
       refine t_sw 6 1 [bN] bN H rfl rfl Sz24 (Sl.cells (H.os 4)) rfl rfl (by simp only [List.all_cons, List.all_nil, Bool.true_and, Bool.and_true, Sl.oc (H.os 4)]; try rfl) ?_
       intro jj H
       refine s_nil ⟨(H.pk [3, 7]), ?_⟩
       refine t_nil ?_
       exact ⟨r6, ax, ay, cF, aP, bN, aO, _, upds_of _ _ ⟨rfl, rfl, rfl, rfl, rfl, trivial⟩, hM, H⟩
      skip
      obtain ⟨jk, dQ, hM⟩ := M.e_bind hM
      refine s_call cf10 [Pq ac, I 5] rfl (zab s_bytes aL aM 5 (ao.app _) aq dQ _ ((H.pk [1, 0, 2, 3, 4, 5, 6]).gt 6)) ?_
      rintro vq jl ⟨r6, ax, ay, dR, hvq, ab⟩
      subst dR
      subst vq
      try dsimp only at hM
      replace H := H.pk [1, 0, 2, 3, 4, 5, 6] |>.bk ab
      clear ab
      refine s_nil ⟨(H.pk [2, 6]), ?_⟩
      obtain ⟨dS, hM⟩ := M.e_grd hM
      simp only [Bool.and_eq_true, decide_eq_true_eq] at dS
      refine t_q rfl (fun w' H => x_ari (a := r5) (b := r6) (r := r5 + r6) rfl rfl rfl (by omega)) ?_
      refine t_q rfl (fun w' H => x_bld (ps := [(0, I r5), (1, I (r5 + r6))]) (zs := [I 0, I 0]) (L' := [I r5, I (r5 + r6)]) rfl Try.underlying27 Al27 rfl (Bd27 Try.underlying27) (.cons (cs := [I r5]) rfl rfl rfl rfl rfl <| .cons (cs := [I (r5 + r6)]) rfl rfl rfl rfl rfl <| .nil)) ?_
      obtain ⟨dT, hM⟩ := M.e_grd hM
      simp only [Bool.and_eq_true, decide_eq_true_eq] at dT
      refine t_l2 rfl rfl ?_ ?_
      ·skip
       refine s_val (x_ld (p := Oq aa 1) (v := aj) rfl (ldb_sc Sc24 (H.bl 5) rfl)) ?_
       refine s_nil ⟨(H.pk [2, 6]), ?_⟩
       refine t_q rfl (fun w' H => x_fa (a := Pq aa) (v := Pq aa) rfl (fa_blk (o := 0) Fd30_0 Sz23)) ?_
       refine t_l rfl ?_
       refine t_bs (α := Span) T24 [.agg #[I r5, I (r5 + r6)]] [(⟨(r5 : Int), (r5 + r6 : Int)⟩ : Span)] H rfl (.cons rfl (Flat.rep_enc _ (⟨(r5 : Int), (r5 + r6 : Int)⟩ : Span)) <| .nil) rfl rfl rfl ?_
       intro cG jm H
       have jn := Sl.cells (H.os 0)
       have jo := Sl.oc (H.os 0)
       refine s_nil ⟨(H.pk [3, 7]), ?_⟩
       refine t_l rfl ?_
       refine t_app (α := Span) (k := 4) (l := l2) (l2 := [(⟨(r5 : Int), (r5 + r6 : Int)⟩ : Span)]) (l' := l2 ++ ([(⟨(r5 : Int), (r5 + r6 : Int)⟩ : Span)])) (vy := cG) T24 rfl H rfl rfl rfl (H.os 0) (H.ol 0) (rfl) (by first | omega | (simp only [List.length_nil] at *; omega)) ?_
       intro bO jp H
       replace H := H.nf
       have jq := Sl.cells (H.os 4)
       have jr := Sl.oc (H.os 4)
       refine s_nil ⟨(H.pk [3, 7]), ?_⟩
       refine t_l rfl ?_
       refine t_sw 6 0 [aO] aO H rfl rfl Sz23 (Sl.cells (H.os 5)) rfl rfl (by simp only [List.all_cons, List.all_nil, Bool.true_and, Bool.and_true, Sl.oc (H.os 5)]; try rfl) ?_
       intro js H
       refine s_nil ⟨(H.pk [3, 7]), ?_⟩
       refine t_q rfl (fun w' H => x_fa (a := Pq aa) (v := Oq aa 1) rfl (fa_blk (o := 0) Fd30_1 Sz24)) ?_
       refine t_l rfl ?_
       refine t_sw 6 1 [bO] bO H rfl rfl Sz24 (Sl.cells (H.os 4)) rfl rfl (by simp only [List.all_cons, List.all_nil, Bool.true_and, Bool.and_true, Sl.oc (H.os 4)]; try rfl) ?_
       intro jt H
       refine s_nil ⟨(H.pk [3, 7]), ?_⟩
       refine t_nil ?_
       exact ⟨r6, ax, ay, cG, aP, bO, aO, _, upds_of _ _ ⟨rfl, rfl, rfl, rfl, rfl, trivial⟩, hM, H⟩
      skip
      refine t_bs (α := Span) T24 [.agg #[I r5, I (r5 + r6)]] [(⟨(r5 : Int), (r5 + r6 : Int)⟩ : Span)] H rfl (.cons rfl (Flat.rep_enc _ (⟨(r5 : Int), (r5 + r6 : Int)⟩ : Span)) <| .nil) rfl rfl rfl ?_
      intro cH ju H
      have jv := Sl.cells (H.os 0)
      have jw := Sl.oc (H.os 0)
      refine s_nil ⟨(H.pk [3, 7]), ?_⟩
      refine t_l rfl ?_
      refine s_val (x_ld (p := Oq aa 1) (v := aj) rfl (ldb_sc Sc24 (H.bl 6) rfl)) ?_
      refine s_nil ⟨(H.pk [3, 7]), ?_⟩
      refine t_q rfl (fun w' H => x_fa (a := Pq aa) (v := Pq aa) rfl (fa_blk (o := 0) Fd30_0 Sz23)) ?_
      refine t_l rfl ?_
      refine t_app (α := Span) (k := 4) (l := l2) (l2 := [(⟨(r5 : Int), (r5 + r6 : Int)⟩ : Span)]) (l' := l2 ++ ([(⟨(r5 : Int), (r5 + r6 : Int)⟩ : Span)])) (vy := cH) T24 rfl H rfl rfl rfl (H.os 0) (H.ol 0) (rfl) (by first | omega | (simp only [List.length_nil] at *; omega)) ?_
      intro bP jx H
      replace H := H.nf
      have jy := Sl.cells (H.os 4)
      have jz := Sl.oc (H.os 4)
      refine s_nil ⟨(H.pk [3, 7]), ?_⟩
      refine t_l rfl ?_
      refine t_sw 6 0 [aO] aO H rfl rfl Sz23 (Sl.cells (H.os 5)) rfl rfl (by simp only [List.all_cons, List.all_nil, Bool.true_and, Bool.and_true, Sl.oc (H.os 5)]; try rfl) ?_
      intro jA H
      refine s_nil ⟨(H.pk [3, 7]), ?_⟩
      refine t_q rfl (fun w' H => x_fa (a := Pq aa) (v := Oq aa 1) rfl (fa_blk (o := 0) Fd30_1 Sz24)) ?_
      refine t_l rfl ?_
      refine t_sw 6 1 [bP] bP H rfl rfl Sz24 (Sl.cells (H.os 4)) rfl rfl (by simp only [List.all_cons, List.all_nil, Bool.true_and, Bool.and_true, Sl.oc (H.os 4)]; try rfl) ?_
      intro jB H
      refine s_nil ⟨(H.pk [3, 7]), ?_⟩
      refine t_nil ?_
      exact ⟨r6, ax, ay, cH, aP, bP, aO, _, upds_of _ _ ⟨rfl, rfl, rfl, rfl, rfl, trivial⟩, hM, H⟩
     skip
     refine s_val (x_ld (p := Oq aa 1) (v := aj) rfl (ldb_sc Sc24 (H.bl 5) rfl)) ?_
     refine s_nil ⟨(H.pk [2, 6]), ?_⟩
     refine t_l rfl ?_
     obtain ⟨dU, hM⟩ := M.e_grd hM
     simp only [Bool.and_eq_true, decide_eq_true_eq] at dU
     refine t_app (α := Int) (k := 4) (l := l) (l2 := [(down : Int)]) (l' := l ++ ([(down : Int)])) (vy := aP) T23 rfl H rfl rfl rfl (H.os 0) (H.ol 0) (rfl) (by first | omega | (simp only [List.length_nil] at *; omega)) ?_
     intro bQ jC H
     replace H := H.nf
     have jD := Sl.cells (H.os 4)
     have jE := Sl.oc (H.os 4)
     refine s_nil ⟨(H.pk [2, 6]), ?_⟩
     refine t_q rfl (fun w' H => x_fa (a := Pq aa) (v := Pq aa) rfl (fa_blk (o := 0) Fd30_0 Sz23)) ?_
     refine t_l rfl ?_
     obtain ⟨jF, dV, hM⟩ := M.e_bind hM
     refine s_call cf10 [Pq ac, I 5] rfl (zab s_bytes aL aM 5 (ao.app _) aq dV _ ((H.pk [1, 0, 2, 3, 4, 5, 6]).gt 6)) ?_
     rintro vq jG ⟨r6, ax, ay, dW, hvq, ab⟩
     subst dW
     subst vq
     try dsimp only at hM
     replace H := H.pk [1, 0, 2, 3, 4, 5, 6] |>.bk ab
     clear ab
     refine s_nil ⟨(H.pk [2, 6]), ?_⟩
     obtain ⟨dX, hM⟩ := M.e_grd hM
     simp only [Bool.and_eq_true, decide_eq_true_eq] at dX
     refine t_q rfl (fun w' H => x_ari (a := r5) (b := r6) (r := r5 + r6) rfl rfl rfl (by omega)) ?_
     refine t_q rfl (fun w' H => x_bld (ps := [(0, I r5), (1, I (r5 + r6))]) (zs := [I 0, I 0]) (L' := [I r5, I (r5 + r6)]) rfl Try.underlying27 Al27 rfl (Bd27 Try.underlying27) (.cons (cs := [I r5]) rfl rfl rfl rfl rfl <| .cons (cs := [I (r5 + r6)]) rfl rfl rfl rfl rfl <| .nil)) ?_
     refine t_l rfl ?_
     refine t_bs (α := Span) T24 [.agg #[I r5, I (r5 + r6)]] [(⟨(r5 : Int), (r5 + r6 : Int)⟩ : Span)] H rfl (.cons rfl (Flat.rep_enc _ (⟨(r5 : Int), (r5 + r6 : Int)⟩ : Span)) <| .nil) rfl rfl rfl ?_
     intro cI jH H
     have jI := Sl.cells (H.os 0)
     have jJ := Sl.oc (H.os 0)
     refine s_nil ⟨(H.pk [3, 7]), ?_⟩
     refine t_l rfl ?_
     obtain ⟨dY, hM⟩ := M.e_grd hM
     simp only [Bool.and_eq_true, decide_eq_true_eq] at dY
     refine t_app (α := Span) (k := 4) (l := l2) (l2 := [(⟨(r5 : Int), (r5 + r6 : Int)⟩ : Span)]) (l' := l2 ++ ([(⟨(r5 : Int), (r5 + r6 : Int)⟩ : Span)])) (vy := cI) T24 rfl H rfl rfl rfl (H.os 0) (H.ol 0) (rfl) (by first | omega | (simp only [List.length_nil] at *; omega)) ?_
     intro bR jK H
     replace H := H.nf
     have jL := Sl.cells (H.os 4)
     have jM := Sl.oc (H.os 4)
     refine s_nil ⟨(H.pk [3, 7]), ?_⟩
     refine t_l rfl ?_
     refine t_sw 6 0 [bQ] bQ H rfl rfl Sz23 (Sl.cells (H.os 5)) rfl rfl (by simp only [List.all_cons, List.all_nil, Bool.true_and, Bool.and_true, Sl.oc (H.os 5)]; try rfl) ?_
     intro jN H
     refine s_nil ⟨(H.pk [3, 7]), ?_⟩
     refine t_q rfl (fun w' H => x_fa (a := Pq aa) (v := Oq aa 1) rfl (fa_blk (o := 0) Fd30_1 Sz24)) ?_
     refine t_l rfl ?_
     refine t_sw 6 1 [bR] bR H rfl rfl Sz24 (Sl.cells (H.os 4)) rfl rfl (by simp only [List.all_cons, List.all_nil, Bool.true_and, Bool.and_true, Sl.oc (H.os 4)]; try rfl) ?_
     intro jO H
     refine s_nil ⟨(H.pk [3, 7]), ?_⟩
     refine t_nil ?_
     exact ⟨r6, ax, ay, cI, aP, bR, bQ, _, upds_of _ _ ⟨rfl, rfl, rfl, rfl, rfl, trivial⟩, hM, H⟩
    skip
    refine s_val (x_ld (p := Oq aa 1) (v := aj) rfl (ldb_sc Sc24 (H.bl 5) rfl)) ?_
    refine s_nil ⟨(H.pk [2, 6]), ?_⟩
    refine t_l rfl ?_
    refine s_val (x_ld (p := Pq aa) (v := ae) rfl (ldb_sc Sc23 (H.bl 5) rfl)) ?_
    refine s_nil ⟨(H.pk [2, 6]), ?_⟩
    refine t_l rfl ?_
    obtain ⟨dZ, hM⟩ := M.e_grd hM
    simp only [Bool.and_eq_true, decide_eq_true_eq] at dZ
    refine t_app (α := Int) (k := 4) (l := l) (l2 := [(down : Int)]) (l' := l ++ ([(down : Int)])) (vy := aP) T23 rfl H rfl rfl rfl (H.os 0) (H.ol 0) (rfl) (by first | omega | (simp only [List.length_nil] at *; omega)) ?_
    intro bS jP H
    replace H := H.nf
    have jQ := Sl.cells (H.os 4)
    have jR := Sl.oc (H.os 4)
    refine s_nil ⟨(H.pk [2, 6]), ?_⟩
    refine t_q rfl (fun w' H => x_fa (a := Pq aa) (v := Pq aa) rfl (fa_blk (o := 0) Fd30_0 Sz23)) ?_
    refine t_l rfl ?_
    obtain ⟨jS, d3, hM⟩ := M.e_bind hM
    refine s_call cf10 [Pq ac, I 5] rfl (zab s_bytes aL aM 5 (ao.app _) aq d3 _ ((H.pk [1, 0, 2, 3, 4, 5, 6]).gt 6)) ?_
    rintro vq jT ⟨r6, ax, ay, d4, hvq, ab⟩
    subst d4
    subst vq
    try dsimp only at hM
    replace H := H.pk [1, 0, 2, 3, 4, 5, 6] |>.bk ab
    clear ab
    refine s_nil ⟨(H.pk [2, 6]), ?_⟩
    obtain ⟨d5, hM⟩ := M.e_grd hM
    simp only [Bool.and_eq_true, decide_eq_true_eq] at d5
    refine t_q rfl (fun w' H => x_ari (a := r5) (b := r6) (r := r5 + r6) rfl rfl rfl (by omega)) ?_
    refine t_q rfl (fun w' H => x_bld (ps := [(0, I r5), (1, I (r5 + r6))]) (zs := [I 0, I 0]) (L' := [I r5, I (r5 + r6)]) rfl Try.underlying27 Al27 rfl (Bd27 Try.underlying27) (.cons (cs := [I r5]) rfl rfl rfl rfl rfl <| .cons (cs := [I (r5 + r6)]) rfl rfl rfl rfl rfl <| .nil)) ?_
    refine t_l rfl ?_
    refine t_bs (α := Span) T24 [.agg #[I r5, I (r5 + r6)]] [(⟨(r5 : Int), (r5 + r6 : Int)⟩ : Span)] H rfl (.cons rfl (Flat.rep_enc _ (⟨(r5 : Int), (r5 + r6 : Int)⟩ : Span)) <| .nil) rfl rfl rfl ?_
    intro cJ jU H
    have jV := Sl.cells (H.os 0)
    have jW := Sl.oc (H.os 0)
    refine s_nil ⟨(H.pk [3, 7]), ?_⟩
    refine t_l rfl ?_
    obtain ⟨d6, hM⟩ := M.e_grd hM
    simp only [Bool.and_eq_true, decide_eq_true_eq] at d6
    refine t_app (α := Span) (k := 4) (l := l2) (l2 := [(⟨(r5 : Int), (r5 + r6 : Int)⟩ : Span)]) (l' := l2 ++ ([(⟨(r5 : Int), (r5 + r6 : Int)⟩ : Span)])) (vy := cJ) T24 rfl H rfl rfl rfl (H.os 0) (H.ol 0) (rfl) (by first | omega | (simp only [List.length_nil] at *; omega)) ?_
    intro bT jX H
    replace H := H.nf
    have jY := Sl.cells (H.os 4)
    have jZ := Sl.oc (H.os 4)
    refine s_nil ⟨(H.pk [3, 7]), ?_⟩
    refine t_l rfl ?_
    refine t_sw 6 0 [bS] bS H rfl rfl Sz23 (Sl.cells (H.os 5)) rfl rfl (by simp only [List.all_cons, List.all_nil, Bool.true_and, Bool.and_true, Sl.oc (H.os 5)]; try rfl) ?_
    intro j3 H
    refine s_nil ⟨(H.pk [3, 7]), ?_⟩
    refine t_q rfl (fun w' H => x_fa (a := Pq aa) (v := Oq aa 1) rfl (fa_blk (o := 0) Fd30_1 Sz24)) ?_
    refine t_l rfl ?_
    refine t_sw 6 1 [bT] bT H rfl rfl Sz24 (Sl.cells (H.os 4)) rfl rfl (by simp only [List.all_cons, List.all_nil, Bool.true_and, Bool.and_true, Sl.oc (H.os 4)]; try rfl) ?_
    intro j4 H
    refine s_nil ⟨(H.pk [3, 7]), ?_⟩
    refine t_nil ?_
    exact ⟨r6, ax, ay, cJ, aP, bT, bS, _, upds_of _ _ ⟨rfl, rfl, rfl, rfl, rfl, trivial⟩, hM, H⟩
   skip
   refine s_val (x_ld (p := Oq aa 1) (v := aj) rfl (ldb_sc Sc24 (H.bl 4) rfl)) ?_
   have j5 := Sl.cells (H.os 2)
   have j6 := Sl.oc (H.os 2)
   have j7 := Sl.cells (H.os 3)
   have j8 := Sl.oc (H.os 3)
   refine s_nil ⟨(H.pk [1, 5]), ?_⟩
   refine t_l2 rfl rfl ?_ ?_
   ·skip
    refine s_val (x_ld (p := Pq aa) (v := ae) rfl (ldb_sc Sc23 (H.bl 4) rfl)) ?_
    refine s_nil ⟨(H.pk [1, 5]), ?_⟩
    refine t_l rfl ?_
    refine t_bs (α := Int) T23 [I down] [(down : Int)] H rfl (.cons rfl (Flat.rep_enc _ (down : Int)) <| .nil) rfl rfl rfl ?_
    intro cK j9 H
    have ka := Sl.cells (H.os 0)
    have kb := Sl.oc (H.os 0)
    refine s_nil ⟨(H.pk [2, 6]), ?_⟩
    refine t_l rfl ?_
    obtain ⟨d7, hM⟩ := M.e_grd hM
    simp only [Bool.and_eq_true, decide_eq_true_eq] at d7
    refine t_app (α := Int) (k := 4) (l := l) (l2 := [(down : Int)]) (l' := l ++ ([(down : Int)])) (vy := cK) T23 rfl H rfl rfl rfl (H.os 0) (H.ol 0) (rfl) (by first | omega | (simp only [List.length_nil] at *; omega)) ?_
    intro bU kc H
    replace H := H.nf
    have ke := Sl.cells (H.os 4)
    have kg := Sl.oc (H.os 4)
    refine s_nil ⟨(H.pk [2, 6]), ?_⟩
    refine t_q rfl (fun w' H => x_fa (a := Pq aa) (v := Pq aa) rfl (fa_blk (o := 0) Fd30_0 Sz23)) ?_
    refine t_l rfl ?_
    obtain ⟨kh, d8, hM⟩ := M.e_bind hM
    refine s_call cf10 [Pq ac, I 5] rfl (zab s_bytes aL aM 5 (ao.app _) aq d8 _ ((H.pk [1, 0, 2, 3, 4, 5, 6]).gt 6)) ?_
    rintro vq ki ⟨r6, ax, ay, d9, hvq, ab⟩
    subst d9
    subst vq
    try dsimp only at hM
    replace H := H.pk [1, 0, 2, 3, 4, 5, 6] |>.bk ab
    clear ab
    refine s_nil ⟨(H.pk [2, 6]), ?_⟩
    obtain ⟨ea, hM⟩ := M.e_grd hM
    simp only [Bool.and_eq_true, decide_eq_true_eq] at ea
    refine t_q rfl (fun w' H => x_ari (a := r5) (b := r6) (r := r5 + r6) rfl rfl rfl (by omega)) ?_
    refine t_q rfl (fun w' H => x_bld (ps := [(0, I r5), (1, I (r5 + r6))]) (zs := [I 0, I 0]) (L' := [I r5, I (r5 + r6)]) rfl Try.underlying27 Al27 rfl (Bd27 Try.underlying27) (.cons (cs := [I r5]) rfl rfl rfl rfl rfl <| .cons (cs := [I (r5 + r6)]) rfl rfl rfl rfl rfl <| .nil)) ?_
    refine t_l rfl ?_
    refine t_bs (α := Span) T24 [.agg #[I r5, I (r5 + r6)]] [(⟨(r5 : Int), (r5 + r6 : Int)⟩ : Span)] H rfl (.cons rfl (Flat.rep_enc _ (⟨(r5 : Int), (r5 + r6 : Int)⟩ : Span)) <| .nil) rfl rfl rfl ?_
    intro cL kj H
    have kl := Sl.cells (H.os 0)
    have ko := Sl.oc (H.os 0)
    refine s_nil ⟨(H.pk [3, 7]), ?_⟩
    refine t_l rfl ?_
    obtain ⟨eb, hM⟩ := M.e_grd hM
    simp only [Bool.and_eq_true, decide_eq_true_eq] at eb
    refine t_app (α := Span) (k := 4) (l := l2) (l2 := [(⟨(r5 : Int), (r5 + r6 : Int)⟩ : Span)]) (l' := l2 ++ ([(⟨(r5 : Int), (r5 + r6 : Int)⟩ : Span)])) (vy := cL) T24 rfl H rfl rfl rfl (H.os 0) (H.ol 0) (rfl) (by first | omega | (simp only [List.length_nil] at *; omega)) ?_
    intro bV kq H
    replace H := H.nf
    have kr := Sl.cells (H.os 4)
    have ku := Sl.oc (H.os 4)
    refine s_nil ⟨(H.pk [3, 7]), ?_⟩
    refine t_l rfl ?_
    refine t_sw 6 0 [bU] bU H rfl rfl Sz23 (Sl.cells (H.os 5)) rfl rfl (by simp only [List.all_cons, List.all_nil, Bool.true_and, Bool.and_true, Sl.oc (H.os 5)]; try rfl) ?_
    intro kv H
    refine s_nil ⟨(H.pk [3, 7]), ?_⟩
    refine t_q rfl (fun w' H => x_fa (a := Pq aa) (v := Oq aa 1) rfl (fa_blk (o := 0) Fd30_1 Sz24)) ?_
    refine t_l rfl ?_
    refine t_sw 6 1 [bV] bV H rfl rfl Sz24 (Sl.cells (H.os 4)) rfl rfl (by simp only [List.all_cons, List.all_nil, Bool.true_and, Bool.and_true, Sl.oc (H.os 4)]; try rfl) ?_
    intro kw H
    refine s_nil ⟨(H.pk [3, 7]), ?_⟩
    refine t_nil ?_
    exact ⟨r6, ax, ay, cL, cK, bV, bU, _, upds_of _ _ ⟨rfl, rfl, rfl, rfl, rfl, trivial⟩, hM, H⟩
   skip
   refine t_bs (α := Int) T23 [I down] [(down : Int)] H rfl (.cons rfl (Flat.rep_enc _ (down : Int)) <| .nil) rfl rfl rfl ?_
   intro cM kx H
   have ky := Sl.cells (H.os 0)
   have kz := Sl.oc (H.os 0)
   refine s_nil ⟨(H.pk [2, 6]), ?_⟩
   refine t_l rfl ?_
   refine s_val (x_ld (p := Pq aa) (v := ae) rfl (ldb_sc Sc23 (H.bl 5) rfl)) ?_
   refine s_nil ⟨(H.pk [2, 6]), ?_⟩
   refine t_l rfl ?_
   obtain ⟨ec, hM⟩ := M.e_grd hM
   simp only [Bool.and_eq_true, decide_eq_true_eq] at ec
   refine t_app (α := Int) (k := 4) (l := l) (l2 := [(down : Int)]) (l' := l ++ ([(down : Int)])) (vy := cM) T23 rfl H rfl rfl rfl (H.os 0) (H.ol 0) (rfl) (by first | omega | (simp only [List.length_nil] at *; omega)) ?_
   intro bW kA H
   replace H := H.nf
   have kB := Sl.cells (H.os 4)
   have kC := Sl.oc (H.os 4)
   refine s_nil ⟨(H.pk [2, 6]), ?_⟩
   refine t_q rfl (fun w' H => x_fa (a := Pq aa) (v := Pq aa) rfl (fa_blk (o := 0) Fd30_0 Sz23)) ?_
   refine t_l rfl ?_
   obtain ⟨kD, ed, hM⟩ := M.e_bind hM
   refine s_call cf10 [Pq ac, I 5] rfl (zab s_bytes aL aM 5 (ao.app _) aq ed _ ((H.pk [1, 0, 2, 3, 4, 5, 6]).gt 6)) ?_
   rintro vq kE ⟨r6, ax, ay, ee, hvq, ab⟩
   subst ee
   subst vq
   try dsimp only at hM
   replace H := H.pk [1, 0, 2, 3, 4, 5, 6] |>.bk ab
   clear ab
   refine s_nil ⟨(H.pk [2, 6]), ?_⟩
   obtain ⟨ef, hM⟩ := M.e_grd hM
   simp only [Bool.and_eq_true, decide_eq_true_eq] at ef
   refine t_q rfl (fun w' H => x_ari (a := r5) (b := r6) (r := r5 + r6) rfl rfl rfl (by omega)) ?_
   refine t_q rfl (fun w' H => x_bld (ps := [(0, I r5), (1, I (r5 + r6))]) (zs := [I 0, I 0]) (L' := [I r5, I (r5 + r6)]) rfl Try.underlying27 Al27 rfl (Bd27 Try.underlying27) (.cons (cs := [I r5]) rfl rfl rfl rfl rfl <| .cons (cs := [I (r5 + r6)]) rfl rfl rfl rfl rfl <| .nil)) ?_
   refine t_l rfl ?_
   refine t_bs (α := Span) T24 [.agg #[I r5, I (r5 + r6)]] [(⟨(r5 : Int), (r5 + r6 : Int)⟩ : Span)] H rfl (.cons rfl (Flat.rep_enc _ (⟨(r5 : Int), (r5 + r6 : Int)⟩ : Span)) <| .nil) rfl rfl rfl ?_
   intro cN kF H
   have kG := Sl.cells (H.os 0)
   have kH := Sl.oc (H.os 0)
   refine s_nil ⟨(H.pk [3, 7]), ?_⟩
   refine t_l rfl ?_
   obtain ⟨eg, hM⟩ := M.e_grd hM
   simp only [Bool.and_eq_true, decide_eq_true_eq] at eg
   refine t_app (α := Span) (k := 4) (l := l2) (l2 := [(⟨(r5 : Int), (r5 + r6 : Int)⟩ : Span)]) (l' := l2 ++ ([(⟨(r5 : Int), (r5 + r6 : Int)⟩ : Span)])) (vy := cN) T24 rfl H rfl rfl rfl (H.os 0) (H.ol 0) (rfl) (by first | omega | (simp only [List.length_nil] at *; omega)) ?_
   intro bX kI H
   replace H := H.nf
   have kJ := Sl.cells (H.os 4)
   have kK := Sl.oc (H.os 4)
   refine s_nil ⟨(H.pk [3, 7]), ?_⟩
   refine t_l rfl ?_
   refine t_sw 6 0 [bW] bW H rfl rfl Sz23 (Sl.cells (H.os 5)) rfl rfl (by simp only [List.all_cons, List.all_nil, Bool.true_and, Bool.and_true, Sl.oc (H.os 5)]; try rfl) ?_
   intro kL H
   refine s_nil ⟨(H.pk [3, 7]), ?_⟩
   refine t_q rfl (fun w' H => x_fa (a := Pq aa) (v := Oq aa 1) rfl (fa_blk (o := 0) Fd30_1 Sz24)) ?_
   refine t_l rfl ?_
   refine t_sw 6 1 [bX] bX H rfl rfl Sz24 (Sl.cells (H.os 4)) rfl rfl (by simp only [List.all_cons, List.all_nil, Bool.true_and, Bool.and_true, Sl.oc (H.os 4)]; try rfl) ?_
   intro kM H
   refine s_nil ⟨(H.pk [3, 7]), ?_⟩
   refine t_nil ?_
   exact ⟨r6, ax, ay, cN, cM, bX, bW, _, upds_of _ _ ⟨rfl, rfl, rfl, rfl, rfl, trivial⟩, hM, H⟩
  rintro _ kN ⟨r6, ax, ay, cx, cy, aX, aY, ρ, rfl, hM, H⟩
  unfold zb5 at hM
  refine W.seq ?_
  refine W.region rfl ?_
  refine s_val (x_fa (a := Pq aa) (v := Oq aa 2) rfl (fa_blk (o := 0) Fd30_2 Sz23)) ?_
  refine s_val (x_ld (p := Oq aa 2) (v := aE) rfl (ldb_sc Sc23 (H.bl 6) rfl)) ?_
  have kO := ((H.os 3)).len_le
  refine s_val (x_lenS T23.und rfl (H.os 3)) ?_
  refine zC (l3.length : Int) 8 (decide ((l3.length : Int) < 8)) rfl rfl rfl ?_
  refine zM (B (decide ((l3.length : Int) < 8))) rfl ?_
  refine g_val (decide ((l3.length : Int) < 8)) (gy_t rfl) (fun hg => x_mv (v := Pq ac) rfl) ?_
  refine g_splitV (decide ((l3.length : Int) < 8)) (I 0) (gy_t rfl) (fun aI => ?_) (fun aI => ?_)
  ·replace hM := M.e_t hM aI
   obtain ⟨kP, eh, hM⟩ := M.e_bind hM
   refine s_call cf10 [Pq ac, I 3] (lst2 (gd_of (c := decide ((l3.length : Int) < 8)) aI (Pq ac)) rfl) (zab s_bytes ax ay 3 (ao.app _) aq eh _ ((H.pk [1, 0, 2, 3, 4, 5, 6, 7]).gt 7)) ?_
   rintro vq kR ⟨r7, cO, cP, ei, hvq, ab⟩
   subst ei
   subst vq
   try dsimp only at hM
   replace H := H.pk [1, 0, 2, 3, 4, 5, 6, 7] |>.bk ab
   clear ab
   refine g_val (decide ((l3.length : Int) < 8)) (gy_t rfl) (fun hg => x_cmp (kd := .i64) (a := r7) (b := 0) (r := r7 == 0) rfl rfl rfl) ?_
   refine s_val (x_pand (b := decide ((l3.length : Int) < 8)) (r := r7 == 0) rfl (fun hb => gd_of (c := decide ((l3.length : Int) < 8)) (by first | exact hb | (rw [hb]; rfl) | simp_all) (B (r7 == 0))) rfl) ?_
   refine s_nil ?_
   replace H := H.pk [0, 3, 4, 5, 6, 7]
   refine W.cond ((decide ((l3.length : Int) < 8)) && (r7 == 0)) rfl (fun bY => ?_) (fun bY => ?_)
   ·replace hM := M.e_t hM bY
    refine W.region rfl ?_
    refine s_val (x_fa (a := Pq aa) (v := Oq aa 2) rfl (fa_blk (o := 0) Fd30_2 Sz23)) ?_
    refine s_val (x_ld (p := Oq aa 2) (v := aE) rfl (ldb_sc Sc23 (H.bl 4) rfl)) ?_
    refine zM (I (i : Int)) rfl ?_
    refine t_bs (α := Int) T23 [I (i : Int)] [(i : Int)] H rfl (.cons rfl (Flat.rep_enc _ (i : Int)) <| .nil) rfl rfl rfl ?_
    intro ej kS H
    obtain ⟨em, hM⟩ := M.e_grd hM
    simp only [Bool.and_eq_true, decide_eq_true_eq] at em
    refine t_app (α := Int) (k := 2) (l := l3) (l2 := [(i : Int)]) (l' := l3 ++ ([(i : Int)])) (vy := ej) T23 rfl H rfl rfl rfl (H.os 0) (H.ol 0) (rfl) (by first | omega | (simp only [List.length_nil] at *; omega)) ?_
    intro bZ kT H
    replace H := H.nf
    refine s_val (x_fa (a := Pq aa) (v := Oq aa 2) rfl (fa_blk (o := 0) Fd30_2 Sz23)) ?_
    refine t_sw 5 2 [bZ] bZ H rfl rfl Sz23 (Sl.cells (H.os 2)) rfl rfl (by simp only [List.all_cons, List.all_nil, Bool.true_and, Bool.and_true, Sl.oc (H.os 2)]; try rfl) ?_
    intro kU H
    refine s_nil ?_
    refine W.region rfl ?_
    refine zM (I (i : Int)) rfl ?_
    obtain ⟨en, hM⟩ := M.e_grd hM
    simp only [Bool.and_eq_true, decide_eq_true_eq] at en
    refine zR (i : Int) 1 ((i : Int) + 1) rfl rfl rfl (by omega) ?_
    refine zA (I ((i : Int) + 1)) rfl ?_
    refine s_nil ?_
    exact ⟨bD, bE, cO, cP, i + 1, l ++ ([(down : Int)]), l2 ++ ([(⟨(r5 : Int), (r5 + r6 : Int)⟩ : Span)]), l3 ++ ([(i : Int)]), aY, aX, bZ, _, upds_of _ _ ⟨rfl, rfl, rfl, rfl, rfl, trivial⟩, M.e_inl hM br, (H.pk [2, 3, 4, 1, 5, 6])⟩
   replace hM := M.e_f hM bY
   refine W.skip ?_
   refine W.region rfl ?_
   refine zM (I (i : Int)) rfl ?_
   obtain ⟨eo, hM⟩ := M.e_grd hM
   simp only [Bool.and_eq_true, decide_eq_true_eq] at eo
   refine zR (i : Int) 1 ((i : Int) + 1) rfl rfl rfl (by omega) ?_
   refine zA (I ((i : Int) + 1)) rfl ?_
   refine s_nil ?_
   exact ⟨bD, bE, cO, cP, i + 1, l ++ ([(down : Int)]), l2 ++ ([(⟨(r5 : Int), (r5 + r6 : Int)⟩ : Span)]), l3, aY, aX, aE, _, upds_of _ _ ⟨rfl, rfl, rfl, rfl, rfl, trivial⟩, M.e_inl hM br, (H.pk [1, 2, 3, 0, 4, 5])⟩
  replace hM := M.e_f hM aI
  refine g_val (v := B false) (decide ((l3.length : Int) < 8)) (gy_t rfl) (fun hg => Bool.noConfusion (aI.symm.trans hg)) ?_
  refine s_val (x_pand0 (b := decide ((l3.length : Int) < 8)) rfl (fun hb => gd_of (c := decide ((l3.length : Int) < 8)) (by first | exact hb | (rw [hb]; rfl) | simp_all) (B false)) rfl) ?_
  refine s_nil ?_
  replace H := H.pk [1, 3, 4, 5, 6, 7]
  refine W.cond false rfl (fun cQ => ?_) (fun cQ => ?_)
  ·skip
   exact absurd cQ (by decide)
  skip
  refine W.skip ?_
  refine W.region rfl ?_
  refine zM (I (i : Int)) rfl ?_
  obtain ⟨ep, hM⟩ := M.e_grd hM
  simp only [Bool.and_eq_true, decide_eq_true_eq] at ep
  refine zR (i : Int) 1 ((i : Int) + 1) rfl rfl rfl (by omega) ?_
  refine zA (I ((i : Int) + 1)) rfl ?_
  refine s_nil ?_
  exact ⟨bD, bE, ax, ay, i + 1, l ++ ([(down : Int)]), l2 ++ ([(⟨(r5 : Int), (r5 + r6 : Int)⟩ : Span)]), l3, aY, aX, aE, _, upds_of _ _ ⟨rfl, rfl, rfl, rfl, rfl, trivial⟩, M.e_inl hM br, (H.pk [1, 2, 3, 0, 4, 5])⟩
 replace hM := M.e_f hM bi
 simp only [qy1, qy2, qy3, qy4, qy5, qy6, ne_eq, qy7] at bi
 refine W.exit ?_
 have eq := M.e_inr hM br
 subst eq
 replace hM := c8
 try dsimp only at hM
 refine W.seqJ (fun σ W => ∃ (ah : List Int) (am : Value) (ρ : Env), σ = upds ρ [(0, Pq ac), (4, Pq aB), (5, Pq aa), (6, I r2)] /\ (zaH s_bytes r2 s4 s5 l2 l ah).Ends r /\ St w W [cOwn (α := Int) 3 am ah, cOwn (α := Span) 27 aj l2, cOwn (α := Int) 3 ae l, cBlk ac [aH, I s4, I s5] 71, cBlk aa [ae, aj, am, .slice none 0 0, I 0, I 0, .slice none 0 0] 30, cBlk aB [.slice none 0 0, .slice none 0 0, .slice none 0 0, .slice none 0 0, I 0, I 0, .slice none 0 0] 30] R) ?_ ?_
 ·skip
  refine W.seq ?_
  refine W.region rfl ?_
  refine s_val (x_fa (a := Pq aa) (v := Oq aa 2) rfl (fa_blk (o := 0) Fd30_2 Sz23)) ?_
  refine s_val (x_ld (p := Oq aa 2) (v := aE) rfl (ldb_sc Sc23 (H.bl 4) rfl)) ?_
  have kV := ((H.os 0)).len_le
  refine s_val (x_lenS T23.und rfl (H.os 0)) ?_
  refine zC (l3.length : Int) 0 ((l3.length : Int) == 0) rfl rfl rfl ?_
  refine s_nil ?_
  refine W.cond ((l3.length : Int) == 0) rfl (fun bj => ?_) (fun bj => ?_)
  ·replace hM := M.e_t hM bj
   simp only [qy1, qy2, qy3, qy4, qy5, qy6, ne_eq, qy7] at bj
   refine W.region rfl ?_
   refine t_bs (α := Int) T23 [I 0] [(0 : Int)] H rfl (.cons rfl (Flat.rep_enc _ (0 : Int)) <| .nil) rfl rfl rfl ?_
   intro b4 kW H
   refine s_val (x_fa (a := Pq aa) (v := Oq aa 2) rfl (fa_blk (o := 0) Fd30_2 Sz23)) ?_
   refine t_sw 5 2 [b4] b4 H rfl rfl Sz23 (Sl.cells (H.os 0)) rfl rfl (by simp only [List.all_cons, List.all_nil, Bool.true_and, Bool.and_true, Sl.oc (H.os 0)]; try rfl) ?_
   intro kX H
   refine s_nil ?_
   exact ⟨[(0 : Int)], b4, _, upds_of _ _ ⟨rfl, rfl, rfl, rfl, trivial⟩, hM, (H.pk [0, 2, 3, 4, 5, 6])⟩
  replace hM := M.e_f hM bj
  simp only [qy1, qy2, qy3, qy4, qy5, qy6, ne_eq, qy7] at bj
  refine W.skip ?_
  exact ⟨l3, aE, _, upds_of _ _ ⟨rfl, rfl, rfl, rfl, trivial⟩, hM, H⟩
 rintro _ kY ⟨ah, am, ρ, rfl, hM, H⟩
 unfold zaH at hM
 refine W.seq ?_
 refine W.seq ?_
 refine W.region rfl ?_
 refine zM (Pq ac) rfl ?_
 obtain ⟨kZ, eu, hM⟩ := M.e_bind hM
 refine s_call cf10 [Pq ac, I 8] rfl (zab s_bytes s4 s5 8 (ao.app _) aq eu _ ((H.pk [3, 0, 1, 2, 4, 5]).gt 5)) ?_
 rintro vq k9 ⟨r8, ew, ez, eA, hvq, ab⟩
 subst eA
 subst vq
 try dsimp only at hM
 replace H := H.pk [3, 0, 1, 2, 4, 5] |>.bk ab
 clear ab
 refine zA (I r8) rfl ?_
 refine s_nil ?_
 refine W.block ?_
 replace H := H.nilOwn (α := Town) 54
 obtain ⟨eB, b5, eC⟩ := M.e_bind hM
 obtain ⟨bC, b5⟩ := M.e_iter b5
 refine W.loop (fun m σ W => ∃ (s8 : Int) (s9 : Int) (k : Int) (az : List Town) (av : Value) (ρ : Env), σ = upds ρ [(0, Pq ac), (4, Pq aB), (5, Pq aa), (6, I r2), (10, I k)] /\ M.iterN (zbL s_bytes r2) m (s8, s9, k, az) = some eB /\ St w W [cOwn (α := Town) 54 av az, cBlk ac [aH, I s8, I s9] 71, cOwn (α := Int) 3 am ah, cOwn (α := Span) 27 aj l2, cOwn (α := Int) 3 ae l, cBlk aa [ae, aj, am, av, I 0, I 0, .slice none 0 0] 30, cBlk aB [.slice none 0 0, .slice none 0 0, .slice none 0 0, .slice none 0 0, I 0, I 0, .slice none 0 0] 30] R) ?_ ?_
 ·exact ⟨_, ew, ez, r8, [], (.slice none 0 0), _, upds_of _ _ ⟨rfl, rfl, rfl, rfl, rfl, trivial⟩, b5, H⟩
 rintro lc σ lf ⟨s8, s9, k, az, av, ρ, rfl, cR, H⟩
 obtain ⟨bm, bn, lg, hM, a6⟩ := M.e_iterN cR
 simp only [zbL] at hM
 clear cR
 refine W.seq ?_
 refine W.seq ?_
 refine W.region rfl ?_
 refine zM (I k) rfl ?_
 refine zC k 0 (decide (0 < k)) rfl rfl rfl ?_
 refine s_nil ?_
 refine W.cond (decide (0 < k)) rfl (fun bo => ?_) (fun bo => ?_)
 ·replace hM := M.e_t hM bo
  simp only [qy1, qy2, qy3, qy4, qy5, qy6, ne_eq, qy7] at bo
  refine W.skip ?_
  refine W.seq ?_
  refine W.block ?_
  refine W.drawT (fun W => St w W [cOwn (α := Int) 3 am ah, cOwn (α := Span) 27 aj l2, cOwn (α := Int) 3 ae l, cBlk aB [.slice none 0 0, .slice none 0 0, .slice none 0 0, .slice none 0 0, I 0, I 0, .slice none 0 0] 30] R) (.q 0 (.q 2 (.q 3 (.q 5 (.q 7 (.l2 1 (.l 4 (.l 6 (.l 8 (.q 9 (.l 10 (.l 11 (.q 12 (.l 13 .nil)))))))) 4 (.l2 1 (.l 6 (.l 8 (.q 9 (.l 10 (.l 11 (.q 12 (.l 13 .nil))))))) 6 (.l2 1 (.l 8 (.q 9 (.l 10 (.l 11 (.q 12 (.l 13 .nil)))))) 8 (.q 9 (.l2 1 (.l 10 (.l 11 (.q 12 (.l 13 .nil)))) 10 (.l 1 (.l 11 (.q 12 (.l 13 .nil)))))))))))))) mixed (by decide +kernel) rfl ?_
  intro lh aF
  replace H := H.ext aF
  clear aF
  refine ⟨(H.pk [2, 3, 4, 6]), ?_⟩
  refine t_q rfl (fun w' H => x_fa (a := Pq aa) (v := Oq aa 3) rfl (fa_blk (o := 0) Fd30_3 Sz25)) ?_
  refine t_q rfl (fun w' H => x_mv (v := Pq ac) rfl) ?_
  refine t_q rfl (fun w' H => x_mv (v := I r2) rfl) ?_
  refine t_q rfl (fun w' H => x_mv (v := Pq ac) rfl) ?_
  refine t_q rfl (fun w' H => x_mv (v := Pq ac) rfl) ?_
  refine t_l2 rfl rfl ?_ ?_
  ·skip
   refine s_val (x_ld (p := Oq aa 3) (v := av) rfl (ldb_sc Sc25 (H.bl 5) rfl)) ?_
   have li := Sl.cells (H.os 0)
   have lj := Sl.oc (H.os 0)
   refine s_nil ⟨(H.pk [2, 3, 4, 6]), ?_⟩
   refine t_l rfl ?_
   obtain ⟨lk, eD, hM⟩ := M.e_bind hM
   refine s_call cf10 [Pq ac, I r2] rfl (zab s_bytes s8 s9 r2 (ao.app _) aq eD _ ((H.pk [1, 0, 2, 3, 4, 5, 6]).gt 6)) ?_
   rintro vq ll ⟨r9, bt, bu, eE, hvq, ab⟩
   subst eE
   subst vq
   try dsimp only at hM
   replace H := H.pk [1, 0, 2, 3, 4, 5, 6] |>.bk ab
   clear ab
   refine s_nil ⟨(H.pk [2, 3, 4, 6]), ?_⟩
   refine t_l rfl ?_
   obtain ⟨lm, eF, hM⟩ := M.e_bind hM
   refine s_call cf10 [Pq ac, I 8] rfl (zab s_bytes bt bu 8 (ao.app _) aq eF _ (H.gt 6)) ?_
   rintro vq lp ⟨ai, a7, a8, eG, hvq, ab⟩
   subst eG
   subst vq
   try dsimp only at hM
   replace H := H.bk ab
   clear ab
   refine s_nil ⟨(H.pk [2, 3, 4, 6]), ?_⟩
   refine t_l rfl ?_
   obtain ⟨lq, eH, hM⟩ := M.e_bind hM
   refine s_call cf27 [Pq ac, I 100, I 300] rfl (zaQ s_bytes a7 a8 100 300 (ao.app _) aq eH _ (H.gt 6)) ?_
   rintro vq lr ⟨ag, aQ, aR, eI, hvq, ab⟩
   subst eI
   subst vq
   try dsimp only at hM
   replace H := H.bk ab
   clear ab
   refine s_nil ⟨(H.pk [2, 3, 4, 6]), ?_⟩
   refine t_q rfl (fun w' H => x_bld (ps := [(0, I r9), (1, I ai), (2, I ag)]) (zs := [I 0, I 0, I 0]) (L' := [I r9, I ai, I ag]) rfl Try.underlying54 Al54 rfl (Bd54 Try.underlying54) (.cons (cs := [I r9]) rfl rfl rfl rfl rfl <| .cons (cs := [I ai]) rfl rfl rfl rfl rfl <| .cons (cs := [I ag]) rfl rfl rfl rfl rfl <| .nil)) ?_
   refine t_l rfl ?_
   refine t_bs (α := Town) T25 [.agg #[I r9, I ai, I ag]] [(⟨(r9 : Int), (ai : Int), (ag : Int)⟩ : Town)] H rfl (.cons rfl (Flat.rep_enc _ (⟨(r9 : Int), (ai : Int), (ag : Int)⟩ : Town)) <| .nil) rfl rfl rfl ?_
   intro eJ ls H
   have lu := Sl.cells (H.os 0)
   have lv := Sl.oc (H.os 0)
   refine s_nil ⟨(H.pk [3, 4, 5, 7]), ?_⟩
   refine t_l rfl ?_
   obtain ⟨eK, hM⟩ := M.e_grd hM
   simp only [Bool.and_eq_true, decide_eq_true_eq] at eK
   refine t_app (α := Town) (k := 2) (l := az) (l2 := [(⟨(r9 : Int), (ai : Int), (ag : Int)⟩ : Town)]) (l' := az ++ ([(⟨(r9 : Int), (ai : Int), (ag : Int)⟩ : Town)])) (vy := eJ) T25 rfl H rfl rfl rfl (H.os 0) (H.ol 0) (rfl) (by first | omega | (simp only [List.length_nil] at *; omega)) ?_
   intro b6 lw H
   replace H := H.nf
   have lx := Sl.cells (H.os 2)
   have ly := Sl.oc (H.os 2)
   refine s_nil ⟨(H.pk [3, 4, 5, 7]), ?_⟩
   refine t_q rfl (fun w' H => x_fa (a := Pq aa) (v := Oq aa 3) rfl (fa_blk (o := 0) Fd30_3 Sz25)) ?_
   refine t_l rfl ?_
   refine t_sw 6 3 [b6] b6 H rfl rfl Sz25 (Sl.cells (H.os 2)) rfl rfl (by simp only [List.all_cons, List.all_nil, Bool.true_and, Bool.and_true, Sl.oc (H.os 2)]; try rfl) ?_
   intro lz H
   refine s_nil ⟨(H.pk [3, 4, 5, 7]), ?_⟩
   refine t_nil ?_
   refine W.region rfl ?_
   refine zM (I k) rfl ?_
   obtain ⟨eL, hM⟩ := M.e_grd hM
   simp only [Bool.and_eq_true, decide_eq_true_eq] at eL
   refine zR k 1 (k - 1) rfl rfl rfl (by omega) ?_
   refine zA (I (k - 1)) rfl ?_
   refine s_nil ?_
   exact ⟨bm, bn, aQ, aR, k - 1, az ++ ([(⟨(r9 : Int), (ai : Int), (ag : Int)⟩ : Town)]), b6, _, upds_of _ _ ⟨rfl, rfl, rfl, rfl, rfl, trivial⟩, M.e_inl hM a6, (H.pk [2, 1, 3, 4, 5, 6, 7])⟩
  skip
  obtain ⟨lA, eM, hM⟩ := M.e_bind hM
  refine s_call cf10 [Pq ac, I r2] rfl (zab s_bytes s8 s9 r2 (ao.app _) aq eM _ ((H.pk [1, 0, 2, 3, 4, 5, 6]).gt 6)) ?_
  rintro vq lB ⟨r9, bt, bu, eN, hvq, ab⟩
  subst eN
  subst vq
  try dsimp only at hM
  replace H := H.pk [1, 0, 2, 3, 4, 5, 6] |>.bk ab
  clear ab
  have lC := Sl.cells (H.os 1)
  have lD := Sl.oc (H.os 1)
  refine s_nil ⟨(H.pk [2, 3, 4, 6]), ?_⟩
  refine t_l2 rfl rfl ?_ ?_
  ·skip
   refine s_val (x_ld (p := Oq aa 3) (v := av) rfl (ldb_sc Sc25 (H.bl 5) rfl)) ?_
   refine s_nil ⟨(H.pk [2, 3, 4, 6]), ?_⟩
   refine t_l rfl ?_
   obtain ⟨lE, eO, hM⟩ := M.e_bind hM
   refine s_call cf10 [Pq ac, I 8] rfl (zab s_bytes bt bu 8 (ao.app _) aq eO _ (H.gt 6)) ?_
   rintro vq lF ⟨ai, a7, a8, eP, hvq, ab⟩
   subst eP
   subst vq
   try dsimp only at hM
   replace H := H.bk ab
   clear ab
   refine s_nil ⟨(H.pk [2, 3, 4, 6]), ?_⟩
   refine t_l rfl ?_
   obtain ⟨lG, eQ, hM⟩ := M.e_bind hM
   refine s_call cf27 [Pq ac, I 100, I 300] rfl (zaQ s_bytes a7 a8 100 300 (ao.app _) aq eQ _ (H.gt 6)) ?_
   rintro vq lH ⟨ag, aQ, aR, eR, hvq, ab⟩
   subst eR
   subst vq
   try dsimp only at hM
   replace H := H.bk ab
   clear ab
   refine s_nil ⟨(H.pk [2, 3, 4, 6]), ?_⟩
   refine t_q rfl (fun w' H => x_bld (ps := [(0, I r9), (1, I ai), (2, I ag)]) (zs := [I 0, I 0, I 0]) (L' := [I r9, I ai, I ag]) rfl Try.underlying54 Al54 rfl (Bd54 Try.underlying54) (.cons (cs := [I r9]) rfl rfl rfl rfl rfl <| .cons (cs := [I ai]) rfl rfl rfl rfl rfl <| .cons (cs := [I ag]) rfl rfl rfl rfl rfl <| .nil)) ?_
   refine t_l rfl ?_
   refine t_bs (α := Town) T25 [.agg #[I r9, I ai, I ag]] [(⟨(r9 : Int), (ai : Int), (ag : Int)⟩ : Town)] H rfl (.cons rfl (Flat.rep_enc _ (⟨(r9 : Int), (ai : Int), (ag : Int)⟩ : Town)) <| .nil) rfl rfl rfl ?_
   intro eS lI H
   have lJ := Sl.cells (H.os 0)
   have lK := Sl.oc (H.os 0)
   refine s_nil ⟨(H.pk [3, 4, 5, 7]), ?_⟩
   refine t_l rfl ?_
   obtain ⟨eT, hM⟩ := M.e_grd hM
   simp only [Bool.and_eq_true, decide_eq_true_eq] at eT
   refine t_app (α := Town) (k := 2) (l := az) (l2 := [(⟨(r9 : Int), (ai : Int), (ag : Int)⟩ : Town)]) (l' := az ++ ([(⟨(r9 : Int), (ai : Int), (ag : Int)⟩ : Town)])) (vy := eS) T25 rfl H rfl rfl rfl (H.os 0) (H.ol 0) (rfl) (by first | omega | (simp only [List.length_nil] at *; omega)) ?_
   intro b7 lL H
   replace H := H.nf
   have lM := Sl.cells (H.os 2)
   have lN := Sl.oc (H.os 2)
   refine s_nil ⟨(H.pk [3, 4, 5, 7]), ?_⟩
   refine t_q rfl (fun w' H => x_fa (a := Pq aa) (v := Oq aa 3) rfl (fa_blk (o := 0) Fd30_3 Sz25)) ?_
   refine t_l rfl ?_
   refine t_sw 6 3 [b7] b7 H rfl rfl Sz25 (Sl.cells (H.os 2)) rfl rfl (by simp only [List.all_cons, List.all_nil, Bool.true_and, Bool.and_true, Sl.oc (H.os 2)]; try rfl) ?_
   intro lO H
   refine s_nil ⟨(H.pk [3, 4, 5, 7]), ?_⟩
   refine t_nil ?_
   refine W.region rfl ?_
   refine zM (I k) rfl ?_
   obtain ⟨eU, hM⟩ := M.e_grd hM
   simp only [Bool.and_eq_true, decide_eq_true_eq] at eU
   refine zR k 1 (k - 1) rfl rfl rfl (by omega) ?_
   refine zA (I (k - 1)) rfl ?_
   refine s_nil ?_
   exact ⟨bm, bn, aQ, aR, k - 1, az ++ ([(⟨(r9 : Int), (ai : Int), (ag : Int)⟩ : Town)]), b7, _, upds_of _ _ ⟨rfl, rfl, rfl, rfl, rfl, trivial⟩, M.e_inl hM a6, (H.pk [2, 1, 3, 4, 5, 6, 7])⟩
  skip
  obtain ⟨lP, eV, hM⟩ := M.e_bind hM
  refine s_call cf10 [Pq ac, I 8] rfl (zab s_bytes bt bu 8 (ao.app _) aq eV _ (H.gt 6)) ?_
  rintro vq lQ ⟨ai, a7, a8, eW, hvq, ab⟩
  subst eW
  subst vq
  try dsimp only at hM
  replace H := H.bk ab
  clear ab
  refine s_nil ⟨(H.pk [2, 3, 4, 6]), ?_⟩
  refine t_l2 rfl rfl ?_ ?_
  ·skip
   refine s_val (x_ld (p := Oq aa 3) (v := av) rfl (ldb_sc Sc25 (H.bl 5) rfl)) ?_
   refine s_nil ⟨(H.pk [2, 3, 4, 6]), ?_⟩
   refine t_l rfl ?_
   obtain ⟨lR, eX, hM⟩ := M.e_bind hM
   refine s_call cf27 [Pq ac, I 100, I 300] rfl (zaQ s_bytes a7 a8 100 300 (ao.app _) aq eX _ (H.gt 6)) ?_
   rintro vq lS ⟨ag, aQ, aR, eY, hvq, ab⟩
   subst eY
   subst vq
   try dsimp only at hM
   replace H := H.bk ab
   clear ab
   refine s_nil ⟨(H.pk [2, 3, 4, 6]), ?_⟩
   refine t_q rfl (fun w' H => x_bld (ps := [(0, I r9), (1, I ai), (2, I ag)]) (zs := [I 0, I 0, I 0]) (L' := [I r9, I ai, I ag]) rfl Try.underlying54 Al54 rfl (Bd54 Try.underlying54) (.cons (cs := [I r9]) rfl rfl rfl rfl rfl <| .cons (cs := [I ai]) rfl rfl rfl rfl rfl <| .cons (cs := [I ag]) rfl rfl rfl rfl rfl <| .nil)) ?_
   refine t_l rfl ?_
   refine t_bs (α := Town) T25 [.agg #[I r9, I ai, I ag]] [(⟨(r9 : Int), (ai : Int), (ag : Int)⟩ : Town)] H rfl (.cons rfl (Flat.rep_enc _ (⟨(r9 : Int), (ai : Int), (ag : Int)⟩ : Town)) <| .nil) rfl rfl rfl ?_
   intro eZ lT H
   have lU := Sl.cells (H.os 0)
   have lV := Sl.oc (H.os 0)
   refine s_nil ⟨(H.pk [3, 4, 5, 7]), ?_⟩
   refine t_l rfl ?_
   obtain ⟨e7, hM⟩ := M.e_grd hM
   simp only [Bool.and_eq_true, decide_eq_true_eq] at e7
   refine t_app (α := Town) (k := 2) (l := az) (l2 := [(⟨(r9 : Int), (ai : Int), (ag : Int)⟩ : Town)]) (l' := az ++ ([(⟨(r9 : Int), (ai : Int), (ag : Int)⟩ : Town)])) (vy := eZ) T25 rfl H rfl rfl rfl (H.os 0) (H.ol 0) (rfl) (by first | omega | (simp only [List.length_nil] at *; omega)) ?_
   intro b8 lW H
   replace H := H.nf
   have lX := Sl.cells (H.os 2)
   have lY := Sl.oc (H.os 2)
   refine s_nil ⟨(H.pk [3, 4, 5, 7]), ?_⟩
   refine t_q rfl (fun w' H => x_fa (a := Pq aa) (v := Oq aa 3) rfl (fa_blk (o := 0) Fd30_3 Sz25)) ?_
   refine t_l rfl ?_
   refine t_sw 6 3 [b8] b8 H rfl rfl Sz25 (Sl.cells (H.os 2)) rfl rfl (by simp only [List.all_cons, List.all_nil, Bool.true_and, Bool.and_true, Sl.oc (H.os 2)]; try rfl) ?_
   intro lZ H
   refine s_nil ⟨(H.pk [3, 4, 5, 7]), ?_⟩
   refine t_nil ?_
   refine W.region rfl ?_
   refine zM (I k) rfl ?_
   obtain ⟨e9, hM⟩ := M.e_grd hM
   simp only [Bool.and_eq_true, decide_eq_true_eq] at e9
   refine zR k 1 (k - 1) rfl rfl rfl (by omega) ?_
   refine zA (I (k - 1)) rfl ?_
   refine s_nil ?_
   exact ⟨bm, bn, aQ, aR, k - 1, az ++ ([(⟨(r9 : Int), (ai : Int), (ag : Int)⟩ : Town)]), b8, _, upds_of _ _ ⟨rfl, rfl, rfl, rfl, rfl, trivial⟩, M.e_inl hM a6, (H.pk [2, 1, 3, 4, 5, 6, 7])⟩
  skip
  obtain ⟨l0, fa, hM⟩ := M.e_bind hM
  refine s_call cf27 [Pq ac, I 100, I 300] rfl (zaQ s_bytes a7 a8 100 300 (ao.app _) aq fa _ (H.gt 6)) ?_
  rintro vq mc ⟨ag, aQ, aR, fb, hvq, ab⟩
  subst fb
  subst vq
  try dsimp only at hM
  replace H := H.bk ab
  clear ab
  refine s_nil ⟨(H.pk [2, 3, 4, 6]), ?_⟩
  refine t_q rfl (fun w' H => x_bld (ps := [(0, I r9), (1, I ai), (2, I ag)]) (zs := [I 0, I 0, I 0]) (L' := [I r9, I ai, I ag]) rfl Try.underlying54 Al54 rfl (Bd54 Try.underlying54) (.cons (cs := [I r9]) rfl rfl rfl rfl rfl <| .cons (cs := [I ai]) rfl rfl rfl rfl rfl <| .cons (cs := [I ag]) rfl rfl rfl rfl rfl <| .nil)) ?_
  obtain ⟨fd, hM⟩ := M.e_grd hM
  simp only [Bool.and_eq_true, decide_eq_true_eq] at fd
  refine t_l2 rfl rfl ?_ ?_
  ·skip
   refine s_val (x_ld (p := Oq aa 3) (v := av) rfl (ldb_sc Sc25 (H.bl 5) rfl)) ?_
   refine s_nil ⟨(H.pk [2, 3, 4, 6]), ?_⟩
   refine t_l rfl ?_
   refine t_bs (α := Town) T25 [.agg #[I r9, I ai, I ag]] [(⟨(r9 : Int), (ai : Int), (ag : Int)⟩ : Town)] H rfl (.cons rfl (Flat.rep_enc _ (⟨(r9 : Int), (ai : Int), (ag : Int)⟩ : Town)) <| .nil) rfl rfl rfl ?_
   intro fe me H
   have mf := Sl.cells (H.os 0)
   have mg := Sl.oc (H.os 0)
   refine s_nil ⟨(H.pk [3, 4, 5, 7]), ?_⟩
   refine t_l rfl ?_
   refine t_app (α := Town) (k := 2) (l := az) (l2 := [(⟨(r9 : Int), (ai : Int), (ag : Int)⟩ : Town)]) (l' := az ++ ([(⟨(r9 : Int), (ai : Int), (ag : Int)⟩ : Town)])) (vy := fe) T25 rfl H rfl rfl rfl (H.os 0) (H.ol 0) (rfl) (by first | omega | (simp only [List.length_nil] at *; omega)) ?_
   intro b9 mh H
   replace H := H.nf
   have mi := Sl.cells (H.os 2)
   have mj := Sl.oc (H.os 2)
   refine s_nil ⟨(H.pk [3, 4, 5, 7]), ?_⟩
   refine t_q rfl (fun w' H => x_fa (a := Pq aa) (v := Oq aa 3) rfl (fa_blk (o := 0) Fd30_3 Sz25)) ?_
   refine t_l rfl ?_
   refine t_sw 6 3 [b9] b9 H rfl rfl Sz25 (Sl.cells (H.os 2)) rfl rfl (by simp only [List.all_cons, List.all_nil, Bool.true_and, Bool.and_true, Sl.oc (H.os 2)]; try rfl) ?_
   intro ml H
   refine s_nil ⟨(H.pk [3, 4, 5, 7]), ?_⟩
   refine t_nil ?_
   refine W.region rfl ?_
   refine zM (I k) rfl ?_
   obtain ⟨fg, hM⟩ := M.e_grd hM
   simp only [Bool.and_eq_true, decide_eq_true_eq] at fg
   refine zR k 1 (k - 1) rfl rfl rfl (by omega) ?_
   refine zA (I (k - 1)) rfl ?_
   refine s_nil ?_
   exact ⟨bm, bn, aQ, aR, k - 1, az ++ ([(⟨(r9 : Int), (ai : Int), (ag : Int)⟩ : Town)]), b9, _, upds_of _ _ ⟨rfl, rfl, rfl, rfl, rfl, trivial⟩, M.e_inl hM a6, (H.pk [2, 1, 3, 4, 5, 6, 7])⟩
  skip
  refine t_bs (α := Town) T25 [.agg #[I r9, I ai, I ag]] [(⟨(r9 : Int), (ai : Int), (ag : Int)⟩ : Town)] H rfl (.cons rfl (Flat.rep_enc _ (⟨(r9 : Int), (ai : Int), (ag : Int)⟩ : Town)) <| .nil) rfl rfl rfl ?_
  intro fh mm H
  have mn := Sl.cells (H.os 0)
  have mo := Sl.oc (H.os 0)
  refine s_nil ⟨(H.pk [3, 4, 5, 7]), ?_⟩
  refine t_l rfl ?_
  refine s_val (x_ld (p := Oq aa 3) (v := av) rfl (ldb_sc Sc25 (H.bl 6) rfl)) ?_
  refine s_nil ⟨(H.pk [3, 4, 5, 7]), ?_⟩
  refine t_l rfl ?_
  refine t_app (α := Town) (k := 2) (l := az) (l2 := [(⟨(r9 : Int), (ai : Int), (ag : Int)⟩ : Town)]) (l' := az ++ ([(⟨(r9 : Int), (ai : Int), (ag : Int)⟩ : Town)])) (vy := fh) T25 rfl H rfl rfl rfl (H.os 0) (H.ol 0) (rfl) (by first | omega | (simp only [List.length_nil] at *; omega)) ?_
  intro ca mp H
  replace H := H.nf
  have mq := Sl.cells (H.os 2)
  have mr := Sl.oc (H.os 2)
  refine s_nil ⟨(H.pk [3, 4, 5, 7]), ?_⟩
  refine t_q rfl (fun w' H => x_fa (a := Pq aa) (v := Oq aa 3) rfl (fa_blk (o := 0) Fd30_3 Sz25)) ?_
  refine t_l rfl ?_
  refine t_sw 6 3 [ca] ca H rfl rfl Sz25 (Sl.cells (H.os 2)) rfl rfl (by simp only [List.all_cons, List.all_nil, Bool.true_and, Bool.and_true, Sl.oc (H.os 2)]; try rfl) ?_
  intro ms H
  refine s_nil ⟨(H.pk [3, 4, 5, 7]), ?_⟩
  refine t_nil ?_
  refine W.region rfl ?_
  refine zM (I k) rfl ?_
  obtain ⟨fi, hM⟩ := M.e_grd hM
  simp only [Bool.and_eq_true, decide_eq_true_eq] at fi
  refine zR k 1 (k - 1) rfl rfl rfl (by omega) ?_
  refine zA (I (k - 1)) rfl ?_
  refine s_nil ?_
  exact ⟨bm, bn, aQ, aR, k - 1, az ++ ([(⟨(r9 : Int), (ai : Int), (ag : Int)⟩ : Town)]), ca, _, upds_of _ _ ⟨rfl, rfl, rfl, rfl, rfl, trivial⟩, M.e_inl hM a6, (H.pk [2, 1, 3, 4, 5, 6, 7])⟩
 replace hM := M.e_f hM bo
 simp only [qy1, qy2, qy3, qy4, qy5, qy6, ne_eq, qy7] at bo
 refine W.exit ?_
 have fj := M.e_inr hM a6
 subst fj
 replace hM := eC
 try dsimp only at hM
 refine W.seq ?_
 refine W.region rfl ?_
 refine zM (Pq ac) rfl ?_
 obtain ⟨mu, fk, hM⟩ := M.e_bind hM
 refine s_call cf10 [Pq ac, I 3] rfl (zab s_bytes s8 s9 3 (ao.app _) aq fk _ ((H.pk [1, 0, 2, 3, 4, 5, 6]).gt 6)) ?_
 rintro vq mw ⟨ak, cS, cT, fm, hvq, ab⟩
 subst fm
 subst vq
 try dsimp only at hM
 replace H := H.pk [1, 0, 2, 3, 4, 5, 6] |>.bk ab
 clear ab
 refine s_val (x_fa (a := Pq aa) (v := Oq aa 4) rfl (fa_blk (o := 0) Fd30_4 Sz27)) ?_
 refine s_val (x_fa (a := Oq aa 4) (v := Oq aa 4) rfl (fa_blk (o := 4) Fd27_0 Sz3)) ?_
 refine t_sw 5 4 [I ak] (I ak) H rfl rfl Sz3 rfl rfl rfl rfl ?_
 intro my H
 refine s_nil ?_
 refine W.seqJ (fun σ W => ∃ (aw : Int) (aS : Int) (aT : Int) (ρ : Env), σ = upds ρ [(0, Pq ac), (4, Pq aB), (5, Pq aa)] /\ (zcg s_bytes l2 l ah az ak aw aS aT).Ends r /\ St w W [cBlk ac [aH, I aS, I aT] 71, cOwn (α := Town) 54 av az, cOwn (α := Int) 3 am ah, cOwn (α := Span) 27 aj l2, cOwn (α := Int) 3 ae l, cBlk aa [ae, aj, am, av, I ak, I (ak + aw), .slice none 0 0] 30, cBlk aB [.slice none 0 0, .slice none 0 0, .slice none 0 0, .slice none 0 0, I 0, I 0, .slice none 0 0] 30] R) ?_ ?_
 ·skip
  refine W.drawT (fun W => St w W [cOwn (α := Town) 54 av az, cOwn (α := Int) 3 am ah, cOwn (α := Span) 27 aj l2, cOwn (α := Int) 3 ae l, cBlk aB [.slice none 0 0, .slice none 0 0, .slice none 0 0, .slice none 0 0, I 0, I 0, .slice none 0 0] 30] R) (.q 0 (.q 1 (.q 3 (.l2 2 (.l 4 (.q 5 (.q 6 (.q 7 (.l 8 .nil))))) 4 (.l 2 (.q 5 (.q 6 (.q 7 (.l 8 .nil))))))))) mixed (by decide +kernel) rfl ?_
  intro mz aF
  replace H := H.ext aF
  clear aF
  refine ⟨(H.pk [1, 2, 3, 4, 6]), ?_⟩
  refine t_q rfl (fun w' H => x_fa (a := Pq aa) (v := Oq aa 4) rfl (fa_blk (o := 0) Fd30_4 Sz27)) ?_
  refine t_q rfl (fun w' H => x_fa (a := Oq aa 4) (v := Oq aa 4) rfl (fa_blk (o := 4) Fd27_0 Sz3)) ?_
  refine t_q rfl (fun w' H => x_mv (v := Pq ac) rfl) ?_
  refine t_l2 rfl rfl ?_ ?_
  ·skip
   refine s_val (x_ld (p := Oq aa 4) (v := I ak) rfl (ldb_sc Sc3 (H.bl 5) rfl)) ?_
   refine s_nil ⟨(H.pk [1, 2, 3, 4, 6]), ?_⟩
   refine t_l rfl ?_
   obtain ⟨mC, fo, hM⟩ := M.e_bind hM
   refine s_call cf10 [Pq ac, I 3] rfl (zab s_bytes cS cT 3 (ao.app _) aq fo _ (H.gt 6)) ?_
   rintro vq mD ⟨aw, aS, aT, fp, hvq, ab⟩
   subst fp
   subst vq
   try dsimp only at hM
   replace H := H.bk ab
   clear ab
   refine s_nil ⟨(H.pk [1, 2, 3, 4, 6]), ?_⟩
   obtain ⟨fq, hM⟩ := M.e_grd hM
   simp only [Bool.and_eq_true, decide_eq_true_eq] at fq
   refine t_q rfl (fun w' H => x_ari (a := ak) (b := aw) (r := ak + aw) rfl rfl rfl (by omega)) ?_
   refine t_q rfl (fun w' H => x_fa (a := Pq aa) (v := Oq aa 4) rfl (fa_blk (o := 0) Fd30_4 Sz27)) ?_
   refine t_q rfl (fun w' H => x_fa (a := Oq aa 4) (v := Oq aa 5) rfl (fa_blk (o := 4) Fd27_1 Sz3)) ?_
   refine t_l rfl ?_
   refine t_sw 5 5 [I (ak + aw)] (I (ak + aw)) H rfl rfl Sz3 rfl rfl rfl rfl ?_
   intro mE H
   refine s_nil ⟨(H.pk [1, 2, 3, 4, 6]), ?_⟩
   refine t_nil ?_
   exact ⟨aw, aS, aT, _, upds_of _ _ ⟨rfl, rfl, rfl, trivial⟩, hM, H⟩
  skip
  obtain ⟨mF, fu, hM⟩ := M.e_bind hM
  refine s_call cf10 [Pq ac, I 3] rfl (zab s_bytes cS cT 3 (ao.app _) aq fu _ (H.gt 6)) ?_
  rintro vq mG ⟨aw, aS, aT, fv, hvq, ab⟩
  subst fv
  subst vq
  try dsimp only at hM
  replace H := H.bk ab
  clear ab
  refine s_nil ⟨(H.pk [1, 2, 3, 4, 6]), ?_⟩
  refine t_l rfl ?_
  refine s_val (x_ld (p := Oq aa 4) (v := I ak) rfl (ldb_sc Sc3 (H.bl 5) rfl)) ?_
  refine s_nil ⟨(H.pk [1, 2, 3, 4, 6]), ?_⟩
  obtain ⟨fw, hM⟩ := M.e_grd hM
  simp only [Bool.and_eq_true, decide_eq_true_eq] at fw
  refine t_q rfl (fun w' H => x_ari (a := ak) (b := aw) (r := ak + aw) rfl rfl rfl (by omega)) ?_
  refine t_q rfl (fun w' H => x_fa (a := Pq aa) (v := Oq aa 4) rfl (fa_blk (o := 0) Fd30_4 Sz27)) ?_
  refine t_q rfl (fun w' H => x_fa (a := Oq aa 4) (v := Oq aa 5) rfl (fa_blk (o := 4) Fd27_1 Sz3)) ?_
  refine t_l rfl ?_
  refine t_sw 5 5 [I (ak + aw)] (I (ak + aw)) H rfl rfl Sz3 rfl rfl rfl rfl ?_
  intro mH H
  refine s_nil ⟨(H.pk [1, 2, 3, 4, 6]), ?_⟩
  refine t_nil ?_
  exact ⟨aw, aS, aT, _, upds_of _ _ ⟨rfl, rfl, rfl, trivial⟩, hM, H⟩
 rintro _ mI ⟨aw, aS, aT, ρ, rfl, hM, H⟩
 unfold zcg at hM
 refine W.seq ?_
 refine W.seq ?_
 refine W.region rfl ?_
 refine zM (Pq ac) rfl ?_
 obtain ⟨mJ, fx, hM⟩ := M.e_bind hM
 refine s_call cf10 [Pq ac, I 10] rfl (zab s_bytes aS aT 10 (ao.app _) aq fx _ (H.gt 6)) ?_
 rintro vq mK ⟨cU, fy, fA, fB, hvq, ab⟩
 subst fB
 subst vq
 try dsimp only at hM
 replace H := H.bk ab
 clear ab
 refine zA (I cU) rfl ?_
 refine s_nil ?_
 refine W.block ?_
 obtain ⟨cV, H⟩ := H.emptyE
 replace H := H.nilOwn (α := Raw 1) 67
 have fC : RepR (α := Flood) (n := 1) cV.cells [] [] := .nil
 obtain ⟨fD, cb, fE⟩ := M.e_bind hM
 obtain ⟨bC, cb⟩ := M.e_iter cb
 refine W.loop (fun m σ W => ∃ (ba : Int) (bb : Int) (k2 : Int) (bc : List Flood) (aC : Value) (aJ : List (Raw 1)) (B_l17 : Base) (ρ : Env), σ = upds ρ [(0, Pq ac), (4, Pq aB), (5, Pq aa), (11, I k2)] /\ M.iterN (zbo s_bytes l ah) m (ba, bb, k2, bc) = some fD /\ St w W [cOwn (α := Raw 1) 67 aC aJ, cRo B_l17, cBlk ac [aH, I ba, I bb] 71, cOwn (α := Town) 54 av az, cOwn (α := Int) 3 am ah, cOwn (α := Span) 27 aj l2, cOwn (α := Int) 3 ae l, cBlk aa [ae, aj, am, av, I ak, I (ak + aw), aC] 30, cBlk aB [.slice none 0 0, .slice none 0 0, .slice none 0 0, .slice none 0 0, I 0, I 0, .slice none 0 0] 30] R /\ RepR (α := Flood) B_l17.cells aJ bc) ?_ ?_
 ·exact ⟨_, fy, fA, cU, [], (.slice none 0 0), [], cV, _, upds_of _ _ ⟨rfl, rfl, rfl, rfl, trivial⟩, cb, H, fC⟩
 rintro mL σ mM ⟨ba, bb, k2, bc, aC, aJ, B_l17, ρ, rfl, cW, H, bf⟩
 obtain ⟨fF, fG, fH, hM, cX⟩ := M.e_iterN cW
 simp only [zbo] at hM
 clear cW
 refine W.seq ?_
 refine W.seq ?_
 refine W.region rfl ?_
 refine zM (I k2) rfl ?_
 refine zC k2 0 (decide (0 < k2)) rfl rfl rfl ?_
 refine s_nil ?_
 refine W.cond (decide (0 < k2)) rfl (fun bp => ?_) (fun bp => ?_)
 ·replace hM := M.e_t hM bp
  simp only [qy1, qy2, qy3, qy4, qy5, qy6, ne_eq, qy7] at bp
  refine W.skip ?_
  refine W.seq ?_
  refine W.block ?_
  refine W.seqJ (fun σ W => ∃ (aA : Nat) (al : Int) (aU : Int) (aV : Int) (ρ : Env), σ = upds ρ [(0, Pq ac), (4, Pq aB), (5, Pq aa), (11, I k2), (12, Pq aA)] /\ (zbT s_bytes l ah k2 bc al aU aV).Ends fH /\ St w W [cBlk aA [I (ah.getD (Int.toNat al) 0), .slice none 0 0] 67, cBlk ac [aH, I aU, I aV] 71, cOwn (α := Raw 1) 67 aC aJ, cRo B_l17, cOwn (α := Town) 54 av az, cOwn (α := Int) 3 am ah, cOwn (α := Span) 27 aj l2, cOwn (α := Int) 3 ae l, cBlk aa [ae, aj, am, av, I ak, I (ak + aw), aC] 30, cBlk aB [.slice none 0 0, .slice none 0 0, .slice none 0 0, .slice none 0 0, I 0, I 0, .slice none 0 0] 30] R) ?_ ?_
  ·skip
   refine W.drawT (fun W => St w W [cOwn (α := Raw 1) 67 aC aJ, cRo B_l17, cOwn (α := Town) 54 av az, cOwn (α := Int) 3 am ah, cOwn (α := Span) 27 aj l2, cOwn (α := Int) 3 ae l, cBlk aa [ae, aj, am, av, I ak, I (ak + aw), aC] 30, cBlk aB [.slice none 0 0, .slice none 0 0, .slice none 0 0, .slice none 0 0, I 0, I 0, .slice none 0 0] 30] R) (.q 0 (.q 1 (.q 2 (.q 3 (.q 4 (.q 5 (.l2 6 (.q 7 (.q 8 (.q 9 (.l 10 (.l 11 .nil))))) 10 (.l 6 (.q 7 (.q 8 (.q 9 (.l 11 .nil)))))))))))) mixed (by decide +kernel) rfl ?_
   intro mN aF
   replace H := H.ext aF
   clear aF
   refine ⟨(H.pk [0, 1, 3, 4, 5, 6, 7, 8]), ?_⟩
   refine t_q rfl (fun w' H => x_fa (a := Pq aa) (v := Oq aa 2) rfl (fa_blk (o := 0) Fd30_2 Sz23)) ?_
   refine t_q rfl (fun w' H => x_ld (p := Oq aa 2) (v := am) rfl (ldb_sc Sc23 (H.bl 6) rfl)) ?_
   refine t_q rfl (fun w' H => x_mv (v := Pq ac) rfl) ?_
   refine t_q rfl (fun w' H => x_fa (a := Pq aa) (v := Oq aa 2) rfl (fa_blk (o := 0) Fd30_2 Sz23)) ?_
   refine t_q rfl (fun w' H => x_ld (p := Oq aa 2) (v := am) rfl (ldb_sc Sc23 (H.bl 6) rfl)) ?_
   have mO := ((H.os 4)).len_le
   refine t_q rfl (fun w' H => x_lenS T23.und rfl (H.os 3)) ?_
   refine t_l2 rfl rfl ?_ ?_
   ·skip
    obtain ⟨mP, fI, hM⟩ := M.e_bind hM
    refine s_call cf10 [Pq ac, I (ah.length : Int)] rfl (zab s_bytes ba bb (ah.length : Int) (ao.app _) aq fI _ ((H.pk [2, 0, 1, 3, 4, 5, 6, 7, 8]).gt 8)) ?_
    rintro vq mQ ⟨al, aU, aV, fJ, hvq, ab⟩
    subst fJ
    subst vq
    try dsimp only at hM
    replace H := H.pk [2, 0, 1, 3, 4, 5, 6, 7, 8] |>.bk ab
    clear ab
    refine s_nil ⟨(H.pk [1, 2, 3, 4, 5, 6, 7, 8]), ?_⟩
    obtain ⟨fK, hM⟩ := M.e_grd hM
    simp only [Bool.and_eq_true, decide_eq_true_eq] at fK
    refine t_q rfl (fun w' H => x_ix (a := am) (b := I al) (v := vat am 1 (Int.toNat al)) rfl rfl (Sl.ix (α := Int) T23.und T23.size (H.os 3) (by omega) (by omega))) ?_
    refine t_q rfl (fun w' H => x_ld (p := vat am 1 (Int.toNat al)) (v := I (ah.getD (Int.toNat al) 0)) rfl (ld_sc Sc3 (At.mono (Int_at (H.os 3) (i := al) (by omega) (by omega)) (H.ol 3)))) ?_
    refine t_q rfl (fun w' H => x_bld (ps := [(0, I (ah.getD (Int.toNat al) 0))]) (zs := [I 0, .slice none 0 0]) (L' := [I (ah.getD (Int.toNat al) 0), .slice none 0 0]) rfl Try.underlying67 Al67 rfl (Bd67 Try.underlying67) (.cons (cs := [I (ah.getD (Int.toNat al) 0)]) rfl rfl rfl rfl rfl <| .nil)) ?_
    refine t_l rfl ?_
    refine t_alloc (cs := [I 0, .slice none 0 0]) H Al67 rfl ?_
    intro aA mR H
    refine s_nil ⟨(H.pk [2, 3, 4, 5, 6, 7, 8, 9]), ?_⟩
    refine t_l rfl ?_
    refine t_sw 0 0 [I (ah.getD (Int.toNat al) 0), .slice none 0 0] (.agg #[I (ah.getD (Int.toNat al) 0), .slice none 0 0]) H rfl rfl Sz67 rfl rfl rfl rfl ?_
    intro mS H
    refine s_nil ⟨(H.pk [2, 3, 4, 5, 6, 7, 8, 9]), ?_⟩
    refine t_nil ?_
    exact ⟨aA, al, aU, aV, _, upds_of _ _ ⟨rfl, rfl, rfl, rfl, rfl, trivial⟩, hM, H⟩
   skip
   refine t_alloc (cs := [I 0, .slice none 0 0]) H Al67 rfl ?_
   intro aA mT H
   refine s_nil ⟨(H.pk [1, 2, 4, 5, 6, 7, 8, 9]), ?_⟩
   refine t_l rfl ?_
   obtain ⟨mU, fL, hM⟩ := M.e_bind hM
   refine s_call cf10 [Pq ac, I (ah.length : Int)] rfl (zab s_bytes ba bb (ah.length : Int) (ao.app _) aq fL _ ((H.pk [3, 0, 1, 2, 4, 5, 6, 7, 8, 9]).gt 9)) ?_
   rintro vq mV ⟨al, aU, aV, fM, hvq, ab⟩
   subst fM
   subst vq
   try dsimp only at hM
   replace H := H.pk [3, 0, 1, 2, 4, 5, 6, 7, 8, 9] |>.bk ab
   clear ab
   refine s_nil ⟨(H.pk [2, 3, 4, 5, 6, 7, 8, 9]), ?_⟩
   obtain ⟨fN, hM⟩ := M.e_grd hM
   simp only [Bool.and_eq_true, decide_eq_true_eq] at fN
   refine t_q rfl (fun w' H => x_ix (a := am) (b := I al) (v := vat am 1 (Int.toNat al)) rfl rfl (Sl.ix (α := Int) T23.und T23.size (H.os 3) (by omega) (by omega))) ?_
   refine t_q rfl (fun w' H => x_ld (p := vat am 1 (Int.toNat al)) (v := I (ah.getD (Int.toNat al) 0)) rfl (ld_sc Sc3 (At.mono (Int_at (H.os 3) (i := al) (by omega) (by omega)) (H.ol 3)))) ?_
   refine t_q rfl (fun w' H => x_bld (ps := [(0, I (ah.getD (Int.toNat al) 0))]) (zs := [I 0, .slice none 0 0]) (L' := [I (ah.getD (Int.toNat al) 0), .slice none 0 0]) rfl Try.underlying67 Al67 rfl (Bd67 Try.underlying67) (.cons (cs := [I (ah.getD (Int.toNat al) 0)]) rfl rfl rfl rfl rfl <| .nil)) ?_
   refine t_l rfl ?_
   refine t_sw 1 0 [I (ah.getD (Int.toNat al) 0), .slice none 0 0] (.agg #[I (ah.getD (Int.toNat al) 0), .slice none 0 0]) H rfl rfl Sz67 rfl rfl rfl rfl ?_
   intro mW H
   refine s_nil ⟨(H.pk [2, 3, 4, 5, 6, 7, 8, 9]), ?_⟩
   refine t_nil ?_
   exact ⟨aA, al, aU, aV, _, upds_of _ _ ⟨rfl, rfl, rfl, rfl, rfl, trivial⟩, hM, (H.pk [1, 0, 2, 3, 4, 5, 6, 7, 8, 9])⟩
  rintro _ mX ⟨aA, al, aU, aV, ρ, rfl, hM, H⟩
  unfold zbT at hM
  refine W.seq ?_
  refine W.seq ?_
  refine W.region rfl ?_
  refine s_val (x_fa (a := Pq aA) (v := Pq aA) rfl (fa_blk (o := 0) Fd67_0 Sz3)) ?_
  refine s_val (x_ld (p := Pq aA) (v := I (ah.getD (Int.toNat al) 0)) rfl (ldb_sc Sc3 (H.bl 0) rfl)) ?_
  refine zA (I (ah.getD (Int.toNat al) 0)) rfl ?_
  refine s_nil ?_
  refine W.block ?_
  replace H := H.nilOwn (α := Int) 3
  obtain ⟨fO, cc, fP⟩ := M.e_bind hM
  obtain ⟨bC, cc⟩ := M.e_iter cc
  refine W.loop (fun m σ W => ∃ (bg : Int) (bh : Int) (au : Int) (aG : List Int) (aK : Value) (ρ : Env), σ = upds ρ [(0, Pq ac), (4, Pq aB), (5, Pq aa), (11, I k2), (12, Pq aA), (13, I au)] /\ M.iterN (zaN s_bytes l) m (bg, bh, au, aG) = some fO /\ St w W [cOwn (α := Int) 3 aK aG, cBlk aA [I (ah.getD (Int.toNat al) 0), aK] 67, cBlk ac [aH, I bg, I bh] 71, cOwn (α := Raw 1) 67 aC aJ, cRo B_l17, cOwn (α := Town) 54 av az, cOwn (α := Int) 3 am ah, cOwn (α := Span) 27 aj l2, cOwn (α := Int) 3 ae l, cBlk aa [ae, aj, am, av, I ak, I (ak + aw), aC] 30, cBlk aB [.slice none 0 0, .slice none 0 0, .slice none 0 0, .slice none 0 0, I 0, I 0, .slice none 0 0] 30] R) ?_ ?_
  ·exact ⟨_, aU, aV, ah.getD (Int.toNat al) 0, [], (.slice none 0 0), _, upds_of _ _ ⟨rfl, rfl, rfl, rfl, rfl, rfl, trivial⟩, cc, H⟩
  rintro mY σ mZ ⟨bg, bh, au, aG, aK, ρ, rfl, cY, H⟩
  obtain ⟨cd, ce, m2, hM, bv⟩ := M.e_iterN cY
  simp only [zaN] at hM
  clear cY
  refine W.seq ?_
  refine W.seq ?_
  refine W.region rfl ?_
  refine zM (I au) rfl ?_
  refine zC au (-1) (au != (-1)) rfl rfl rfl ?_
  refine s_nil ?_
  refine W.cond (au != (-1)) rfl (fun bq => ?_) (fun bq => ?_)
  ·replace hM := M.e_t hM bq
   simp only [qy1, qy2, qy3, qy4, qy5, qy6, ne_eq, qy7] at bq
   refine W.skip ?_
   refine W.seq ?_
   refine W.block ?_
   refine W.drawT (fun W => St w W [cOwn (α := Raw 1) 67 aC aJ, cRo B_l17, cOwn (α := Town) 54 av az, cOwn (α := Int) 3 am ah, cOwn (α := Span) 27 aj l2, cOwn (α := Int) 3 ae l, cBlk aa [ae, aj, am, av, I ak, I (ak + aw), aC] 30, cBlk aB [.slice none 0 0, .slice none 0 0, .slice none 0 0, .slice none 0 0, I 0, I 0, .slice none 0 0] 30] R) (.q 0 (.q 2 (.l2 1 (.l 3 (.l 4 (.l 5 (.q 6 (.l 7 .nil))))) 3 (.l2 1 (.l 4 (.l 5 (.q 6 (.l 7 .nil)))) 4 (.l 1 (.l 5 (.q 6 (.l 7 .nil)))))))) mixed (by decide +kernel) rfl ?_
   intro m3 aF
   replace H := H.ext aF
   clear aF
   refine ⟨(H.pk [3, 4, 5, 6, 7, 8, 9, 10]), ?_⟩
   refine t_q rfl (fun w' H => x_fa (a := Pq aA) (v := Oq aA 1) rfl (fa_blk (o := 0) Fd67_1 Sz23)) ?_
   refine t_q rfl (fun w' H => x_mv (v := Pq ac) rfl) ?_
   refine t_l2 rfl rfl ?_ ?_
   ·skip
    refine s_val (x_ld (p := Oq aA 1) (v := aK) rfl (ldb_sc Sc23 (H.bl 1) rfl)) ?_
    have m4 := Sl.cells (H.os 0)
    have m5 := Sl.oc (H.os 0)
    refine s_nil ⟨(H.pk [3, 4, 5, 6, 7, 8, 9, 10]), ?_⟩
    refine t_l rfl ?_
    obtain ⟨m6, fQ, hM⟩ := M.e_bind hM
    refine s_call cf10 [Pq ac, I 400] rfl (zab s_bytes bg bh 400 (ao.app _) aq fQ _ ((H.pk [2, 0, 1, 3, 4, 5, 6, 7, 8, 9, 10]).gt 10)) ?_
    rintro vq m7 ⟨aD, bw, bx, fR, hvq, ab⟩
    subst fR
    subst vq
    try dsimp only at hM
    replace H := H.pk [2, 0, 1, 3, 4, 5, 6, 7, 8, 9, 10] |>.bk ab
    clear ab
    refine s_nil ⟨(H.pk [3, 4, 5, 6, 7, 8, 9, 10]), ?_⟩
    refine t_l rfl ?_
    refine t_bs (α := Int) T23 [I aD] [(aD : Int)] H rfl (.cons rfl (Flat.rep_enc _ (aD : Int)) <| .nil) rfl rfl rfl ?_
    intro fS m8 H
    have m9 := Sl.cells (H.os 0)
    have nc := Sl.oc (H.os 0)
    refine s_nil ⟨(H.pk [4, 5, 6, 7, 8, 9, 10, 11]), ?_⟩
    refine t_l rfl ?_
    obtain ⟨fT, hM⟩ := M.e_grd hM
    simp only [Bool.and_eq_true, decide_eq_true_eq] at fT
    refine t_app (α := Int) (k := 2) (l := aG) (l2 := [(aD : Int)]) (l' := aG ++ ([(aD : Int)])) (vy := fS) T23 rfl H rfl rfl rfl (H.os 0) (H.ol 0) (rfl) (by first | omega | (simp only [List.length_nil] at *; omega)) ?_
    intro cf nd H
    replace H := H.nf
    have ng := Sl.cells (H.os 2)
    have nh := Sl.oc (H.os 2)
    refine s_nil ⟨(H.pk [4, 5, 6, 7, 8, 9, 10, 11]), ?_⟩
    refine t_q rfl (fun w' H => x_fa (a := Pq aA) (v := Oq aA 1) rfl (fa_blk (o := 0) Fd67_1 Sz23)) ?_
    refine t_l rfl ?_
    refine t_sw 3 1 [cf] cf H rfl rfl Sz23 (Sl.cells (H.os 2)) rfl rfl (by simp only [List.all_cons, List.all_nil, Bool.true_and, Bool.and_true, Sl.oc (H.os 2)]; try rfl) ?_
    intro ni H
    refine s_nil ⟨(H.pk [4, 5, 6, 7, 8, 9, 10, 11]), ?_⟩
    refine t_nil ?_
    refine W.region rfl ?_
    refine s_val (x_fa (a := Pq aa) (v := Pq aa) rfl (fa_blk (o := 0) Fd30_0 Sz23)) ?_
    refine s_val (x_ld (p := Pq aa) (v := ae) rfl (ldb_sc Sc23 (H.bl 10) rfl)) ?_
    refine zM (I au) rfl ?_
    obtain ⟨fU, hM⟩ := M.e_grd hM
    simp only [Bool.and_eq_true, decide_eq_true_eq] at fU
    refine s_val (x_ix (a := ae) (b := I au) (v := vat ae 1 (Int.toNat au)) rfl rfl (Sl.ix (α := Int) T23.und T23.size (H.os 9) (by omega) (by omega))) ?_
    refine s_val (x_ld (p := vat ae 1 (Int.toNat au)) (v := I (l.getD (Int.toNat au) 0)) rfl (ld_sc Sc3 (At.mono (Int_at (H.os 9) (i := au) (by omega) (by omega)) (H.ol 9)))) ?_
    refine zA (I (l.getD (Int.toNat au) 0)) rfl ?_
    refine s_nil ?_
    exact ⟨cd, ce, bw, bx, l.getD (Int.toNat au) 0, aG ++ ([(aD : Int)]), cf, _, upds_of _ _ ⟨rfl, rfl, rfl, rfl, rfl, rfl, trivial⟩, M.e_inl hM bv, (H.pk [2, 3, 1, 4, 5, 6, 7, 8, 9, 10, 11])⟩
   skip
   obtain ⟨nj, fV, hM⟩ := M.e_bind hM
   refine s_call cf10 [Pq ac, I 400] rfl (zab s_bytes bg bh 400 (ao.app _) aq fV _ ((H.pk [2, 0, 1, 3, 4, 5, 6, 7, 8, 9, 10]).gt 10)) ?_
   rintro vq nk ⟨aD, bw, bx, fW, hvq, ab⟩
   subst fW
   subst vq
   try dsimp only at hM
   replace H := H.pk [2, 0, 1, 3, 4, 5, 6, 7, 8, 9, 10] |>.bk ab
   clear ab
   have nl := Sl.cells (H.os 1)
   have nm := Sl.oc (H.os 1)
   refine s_nil ⟨(H.pk [3, 4, 5, 6, 7, 8, 9, 10]), ?_⟩
   obtain ⟨fX, hM⟩ := M.e_grd hM
   simp only [Bool.and_eq_true, decide_eq_true_eq] at fX
   refine t_l2 rfl rfl ?_ ?_
   ·skip
    refine s_val (x_ld (p := Oq aA 1) (v := aK) rfl (ldb_sc Sc23 (H.bl 2) rfl)) ?_
    refine s_nil ⟨(H.pk [3, 4, 5, 6, 7, 8, 9, 10]), ?_⟩
    refine t_l rfl ?_
    refine t_bs (α := Int) T23 [I aD] [(aD : Int)] H rfl (.cons rfl (Flat.rep_enc _ (aD : Int)) <| .nil) rfl rfl rfl ?_
    intro fY nn H
    have np := Sl.cells (H.os 0)
    have nq := Sl.oc (H.os 0)
    refine s_nil ⟨(H.pk [4, 5, 6, 7, 8, 9, 10, 11]), ?_⟩
    refine t_l rfl ?_
    refine t_app (α := Int) (k := 2) (l := aG) (l2 := [(aD : Int)]) (l' := aG ++ ([(aD : Int)])) (vy := fY) T23 rfl H rfl rfl rfl (H.os 0) (H.ol 0) (rfl) (by first | omega | (simp only [List.length_nil] at *; omega)) ?_
    intro cg nr H
    replace H := H.nf
    have ns := Sl.cells (H.os 2)
    have nu := Sl.oc (H.os 2)
    refine s_nil ⟨(H.pk [4, 5, 6, 7, 8, 9, 10, 11]), ?_⟩
    refine t_q rfl (fun w' H => x_fa (a := Pq aA) (v := Oq aA 1) rfl (fa_blk (o := 0) Fd67_1 Sz23)) ?_
    refine t_l rfl ?_
    refine t_sw 3 1 [cg] cg H rfl rfl Sz23 (Sl.cells (H.os 2)) rfl rfl (by simp only [List.all_cons, List.all_nil, Bool.true_and, Bool.and_true, Sl.oc (H.os 2)]; try rfl) ?_
    intro nv H
    refine s_nil ⟨(H.pk [4, 5, 6, 7, 8, 9, 10, 11]), ?_⟩
    refine t_nil ?_
    refine W.region rfl ?_
    refine s_val (x_fa (a := Pq aa) (v := Pq aa) rfl (fa_blk (o := 0) Fd30_0 Sz23)) ?_
    refine s_val (x_ld (p := Pq aa) (v := ae) rfl (ldb_sc Sc23 (H.bl 10) rfl)) ?_
    refine zM (I au) rfl ?_
    obtain ⟨fZ, hM⟩ := M.e_grd hM
    simp only [Bool.and_eq_true, decide_eq_true_eq] at fZ
    refine s_val (x_ix (a := ae) (b := I au) (v := vat ae 1 (Int.toNat au)) rfl rfl (Sl.ix (α := Int) T23.und T23.size (H.os 9) (by omega) (by omega))) ?_
    refine s_val (x_ld (p := vat ae 1 (Int.toNat au)) (v := I (l.getD (Int.toNat au) 0)) rfl (ld_sc Sc3 (At.mono (Int_at (H.os 9) (i := au) (by omega) (by omega)) (H.ol 9)))) ?_
    refine zA (I (l.getD (Int.toNat au) 0)) rfl ?_
    refine s_nil ?_
    exact ⟨cd, ce, bw, bx, l.getD (Int.toNat au) 0, aG ++ ([(aD : Int)]), cg, _, upds_of _ _ ⟨rfl, rfl, rfl, rfl, rfl, rfl, trivial⟩, M.e_inl hM bv, (H.pk [2, 3, 1, 4, 5, 6, 7, 8, 9, 10, 11])⟩
   skip
   refine t_bs (α := Int) T23 [I aD] [(aD : Int)] H rfl (.cons rfl (Flat.rep_enc _ (aD : Int)) <| .nil) rfl rfl rfl ?_
   intro f0 nw H
   have ny := Sl.cells (H.os 0)
   have nz := Sl.oc (H.os 0)
   refine s_nil ⟨(H.pk [4, 5, 6, 7, 8, 9, 10, 11]), ?_⟩
   refine t_l rfl ?_
   refine s_val (x_ld (p := Oq aA 1) (v := aK) rfl (ldb_sc Sc23 (H.bl 3) rfl)) ?_
   refine s_nil ⟨(H.pk [4, 5, 6, 7, 8, 9, 10, 11]), ?_⟩
   refine t_l rfl ?_
   refine t_app (α := Int) (k := 2) (l := aG) (l2 := [(aD : Int)]) (l' := aG ++ ([(aD : Int)])) (vy := f0) T23 rfl H rfl rfl rfl (H.os 0) (H.ol 0) (rfl) (by first | omega | (simp only [List.length_nil] at *; omega)) ?_
   intro ch nA H
   replace H := H.nf
   have nB := Sl.cells (H.os 2)
   have nC := Sl.oc (H.os 2)
   refine s_nil ⟨(H.pk [4, 5, 6, 7, 8, 9, 10, 11]), ?_⟩
   refine t_q rfl (fun w' H => x_fa (a := Pq aA) (v := Oq aA 1) rfl (fa_blk (o := 0) Fd67_1 Sz23)) ?_
   refine t_l rfl ?_
   refine t_sw 3 1 [ch] ch H rfl rfl Sz23 (Sl.cells (H.os 2)) rfl rfl (by simp only [List.all_cons, List.all_nil, Bool.true_and, Bool.and_true, Sl.oc (H.os 2)]; try rfl) ?_
   intro nD H
   refine s_nil ⟨(H.pk [4, 5, 6, 7, 8, 9, 10, 11]), ?_⟩
   refine t_nil ?_
   refine W.region rfl ?_
   refine s_val (x_fa (a := Pq aa) (v := Pq aa) rfl (fa_blk (o := 0) Fd30_0 Sz23)) ?_
   refine s_val (x_ld (p := Pq aa) (v := ae) rfl (ldb_sc Sc23 (H.bl 10) rfl)) ?_
   refine zM (I au) rfl ?_
   obtain ⟨f3, hM⟩ := M.e_grd hM
   simp only [Bool.and_eq_true, decide_eq_true_eq] at f3
   refine s_val (x_ix (a := ae) (b := I au) (v := vat ae 1 (Int.toNat au)) rfl rfl (Sl.ix (α := Int) T23.und T23.size (H.os 9) (by omega) (by omega))) ?_
   refine s_val (x_ld (p := vat ae 1 (Int.toNat au)) (v := I (l.getD (Int.toNat au) 0)) rfl (ld_sc Sc3 (At.mono (Int_at (H.os 9) (i := au) (by omega) (by omega)) (H.ol 9)))) ?_
   refine zA (I (l.getD (Int.toNat au) 0)) rfl ?_
   refine s_nil ?_
   exact ⟨cd, ce, bw, bx, l.getD (Int.toNat au) 0, aG ++ ([(aD : Int)]), ch, _, upds_of _ _ ⟨rfl, rfl, rfl, rfl, rfl, rfl, trivial⟩, M.e_inl hM bv, (H.pk [2, 3, 1, 4, 5, 6, 7, 8, 9, 10, 11])⟩
  replace hM := M.e_f hM bq
  simp only [qy1, qy2, qy3, qy4, qy5, qy6, ne_eq, qy7] at bq
  refine W.exit ?_
  have f4 := M.e_inr hM bv
  subst f4
  replace hM := fP
  try dsimp only at hM
  refine W.region rfl ?_
  refine s_val (x_fa (a := Pq aa) (v := Oq aa 6) rfl (fa_blk (o := 0) Fd30_5 Sz28)) ?_
  refine s_val (x_ld (p := Oq aa 6) (v := aC) rfl (ldb_sc Sc28 (H.bl 9) rfl)) ?_
  refine s_val (x_ld (p := Pq aA) (v := .agg #[I (ah.getD (Int.toNat al) 0), aK]) rfl (ldb_ag (ds := [I (ah.getD (Int.toNat al) 0), aK]) Ag67 Sz67 (H.bl 1) rfl rfl)) ?_
  obtain ⟨nE, H⟩ := H.emptyE
  obtain ⟨nF, H, f6⟩ := H.freezeE (k := 1) rfl
  replace H := H.nf
  have bz := f6
  obtain ⟨f9, H, nG, ga⟩ := H.joinE (i := 0) (j := 1) rfl rfl
  replace bz := bz.mono ga
  obtain ⟨aW, cZ⟩ : ∃ r : Raw 1, r.cs = [I (ah.getD (Int.toNat al) 0), aK] := ⟨Raw.of [I (ah.getD (Int.toNat al) 0), aK] rfl (by simp only [List.all_cons, List.all_nil, Bool.true_and, Bool.and_true, Sl.oc bz]; try rfl), rfl⟩
  have gc : RepR (α := Flood) f9.cells [aW] [(⟨(ah.getD (Int.toNat al) 0 : Int), aG⟩ : Flood)] := .cons (by rw [cZ]; exact ⟨_, rfl, bz⟩) <| .nil
  refine t_bs (α := Raw 1) T28 [.agg #[I (ah.getD (Int.toNat al) 0), aK]] [aW] H rfl (.cons (by rw [show (Flat.enc aW : List Value) = aW.cs from rfl, cZ]; rfl) (Flat.rep_enc _ _) <| .nil) rfl rfl rfl ?_
  intro gf nH H
  replace H := H.nf
  obtain ⟨gg, hM⟩ := M.e_grd hM
  simp only [Bool.and_eq_true, decide_eq_true_eq] at gg
  have bA := gc
  obtain ⟨gh, H, gi, gj⟩ := H.joinE (i := 7) (j := 1) rfl rfl
  replace bf := bf.mono gi
  replace bA := bA.mono gj
  have ck := bf.app bA
  refine t_app (α := Raw 1) (k := 7) (l := aJ) (l2 := [aW]) (l' := aJ ++ ([aW])) (vy := gf) T28 rfl H rfl rfl rfl (H.os 1) (H.ol 1) (rfl) (by have a_ := bf.len; have b_ := bA.len; (try simp only [List.length_nil] at *); first | omega | (rw [a_, b_]; omega)) ?_
  intro cm nI H
  replace H := H.nf
  refine s_val (x_fa (a := Pq aa) (v := Oq aa 6) rfl (fa_blk (o := 0) Fd30_5 Sz28)) ?_
  refine t_sw 13 6 [cm] cm H rfl rfl Sz28 (Sl.cells (rowSl rfl (H.get (k := 7) rfl) (roLe _ (H.get (k := 0) rfl)) ck)) rfl rfl (by simp only [List.all_cons, List.all_nil, Bool.true_and, Bool.and_true, Sl.oc (rowSl rfl (H.get (k := 7) rfl) (roLe _ (H.get (k := 0) rfl)) ck)]; try rfl) ?_
  intro nJ H
  refine s_nil ?_
  replace H := H.pk [0, 6, 7, 8, 9, 10, 11, 12, 13, 14]
  refine W.region rfl ?_
  refine zM (I k2) rfl ?_
  obtain ⟨gk, hM⟩ := M.e_grd hM
  simp only [Bool.and_eq_true, decide_eq_true_eq] at gk
  refine zR k2 1 (k2 - 1) rfl rfl rfl (by omega) ?_
  refine zA (I (k2 - 1)) rfl ?_
  refine s_nil ?_
  exact ⟨fF, fG, bg, bh, k2 - 1, bc ++ ([(⟨(ah.getD (Int.toNat al) 0 : Int), aG⟩ : Flood)]), cm, aJ ++ ([aW]), gh, _, upds_of _ _ ⟨rfl, rfl, rfl, rfl, trivial⟩, M.e_inl hM cX, (H.pk [2, 0, 1, 4, 5, 6, 7, 8, 9]), ck⟩
 replace hM := M.e_f hM bp
 simp only [qy1, qy2, qy3, qy4, qy5, qy6, ne_eq, qy7] at bp
 refine W.exit ?_
 have gl := M.e_inr hM cX
 subst gl
 replace hM := fE
 try dsimp only at hM
 refine W.seq ?_
 refine W.region rfl ?_
 refine s_val (x_ld (p := Pq aa) (v := .agg #[ae, aj, am, av, I ak, I (ak + aw), aC]) rfl (ldb_ag (ds := [ae, aj, am, av, I ak, I (ak + aw), aC]) Ag30 Sz30 (H.bl 7) rfl rfl)) ?_
 refine t_sw 8 0 [ae, aj, am, av, I ak, I (ak + aw), aC] (.agg #[ae, aj, am, av, I ak, I (ak + aw), aC]) H rfl rfl Sz30 rfl rfl rfl (by simp only [List.all_cons, List.all_nil, Bool.true_and, Bool.and_true, Sl.oc (H.os 6), Sl.oc (H.os 5), Sl.oc (H.os 4), Sl.oc (H.os 3), Sl.oc (rowSl rfl (H.get (k := 0) rfl) (roLe _ (H.get (k := 1) rfl)) bf)]; try rfl) ?_
 intro nK H
 refine s_nil ?_
 refine W.ret ?_
 have gm := (H.bl 8)
 have gn := M.e_pure hM
 exact ⟨_, (resE_of1 (v := .agg #[ae, aj, am, av, I ak, I (ak + aw), aC]) rfl (.cell (v := .agg #[ae, aj, am, av, I ak, I (ak + aw), aC]) rfl (run_loadVar_ag (ds := [ae, aj, am, av, I ak, I (ak + aw), aC]) Ag30 Sz30 gm rfl rfl) <| .nil)), ⟨l, l2, ah, az, ak, (ak + aw), bc, ba, bb, ae, aj, am, av, aC, aJ, B_l17, gn, rfl, (H.pk [6, 5, 4, 3, 0, 1, 2]), bf⟩⟩

end Go.Proofs.Ytbaehghammbjdaa
end
namespace Go.Proofs.Ytbaehghammbjdaa
open Go Go.Nm
end Go.Proofs.Ytbaehghammbjdaa
