/- Part 4 of the texts on which the proof rests. Conditions: none. -/
import Derived.KernelRfl
import Derived.Test.YtbaehghammbjdaaGreatZB3
set_option linter.unusedVariables false
set_option linter.unusedSimpArgs false
set_option linter.unusedSectionVars false
section
set_option maxRecDepth 100000
set_option maxHeartbeats 16000000
namespace Go.Proofs.YtbaehghammbjdaaGreat
open Go Go.Nm
def zah (aa : List Int) (ab : List Span) (ac : List Int) (ae : List Town) (ak : Int) (am : Int) (ag : List Flood) (watches : List Int) (thresholds : List Int) : M ((List Int) × (List Int) × Int) :=
  M.bind (zam aa ab ac ae ak am ag watches) fun x_ => match x_ with
  | (.inl (r1, r2)) => (
  bif r2 != 0 then (
  M.pure (([]), ([]), r2))
  else (
  M.fail))
  | (.inr (ah, ai, aj, ao)) => (
  bif ao != 0 then (
  M.fail)
  else (
  bif (thresholds.length : Int) != (watches.length : Int) then (
  M.pure (([]), ([]), 2))
  else (
  M.bind (zaM thresholds (fun ap => zbb ap)) fun r3 =>
  bif !r3 then (
  M.pure (([]), ([]), 4))
  else (
  M.bind (zb6 aa ab ac ae ah ai ag aj watches thresholds) fun r4 =>
  M.bind (zbP aa ab ac ae ah ai ag aj watches thresholds) fun r5 =>
  M.pure (r4, r5, 0)))))
theorem zaG {R : List Chunk} {bc : Cells} {ag : Value} {bf : Cells} {ah : Value} {bg : Cells} {ai : Value} {bh : Cells} {aj : Value} {bi : Cells} {ak : Value} {bj : Cells} {aq : Value} {bm : Cells} {au : Value} (az : List Int) (aA : List Span) (aB : List Int) (aC : List Town) (am : Int) (ao : Int) (aD : List Flood) (watches : List Int) (thresholds : List Int) (aO : Reads R bc) (aP : Sl bc ag az) (aQ : Reads R bf) (aR : Sl bf ah aA) (aS : Reads R bg) (aT : Sl bg ai aB) (aU : Reads R bh) (aV : Sl bh aj aC) (aW : Reads R bi) (aX : Sl bi ak aD) (aY : Reads R bj) (aE : Sl bj aq watches) (aZ : Reads R bm) (aF : Sl bm au thresholds) {r : ((List Int) × (List Int) × Int)} (hM : (zah az aA aB aC am ao aD watches thresholds).Ends r) (w : World) (H : St w w [] R) : Ret Tryz.prog 16 #[.agg #[ag, ah, ai, aj, I am, I ao, ak], aq, au] w fun v w' => ∃ (y0 : List Int) (y1 : List Int) (y2 : Int) (u0 : Value) (u1 : Value), (y0, y1, y2) = r /\ v = .tuple #[u0, u1, I y2] /\ St w w' [cOwn (α := Int) 3 u0 y0, cOwn (α := Int) 3 u1 y1] R := by
 refine ret_of_W Tryz.func16 rfl rfl rfl ?_
 refine W.seq ?_
 refine W.region rfl ?_
 refine t_box (v := .agg #[ag, ah, ai, aj, I am, I ao, ak]) (cs := [ag, ah, ai, aj, I am, I ao, ak]) H rfl rfl ?_
 intro a6 bJ H
 refine t_box (v := aq) (cs := [aq]) H rfl (Sl.cells aE) ?_
 intro av bK H
 refine t_box (v := au) (cs := [au]) H rfl (Sl.cells aF) ?_
 intro aw bL H
 refine zA (.slice none 0 0) rfl ?_
 refine zA (.slice none 0 0) rfl ?_
 refine zA (I 0) rfl ?_
 refine s_nil ?_
 refine W.seq ?_
 refine W.region rfl ?_
 refine s_val (x_ld (p := Pq a6) (v := .agg #[ag, ah, ai, aj, I am, I ao, ak]) rfl (ldb_ag (ds := [ag, ah, ai, aj, I am, I ao, ak]) Ag29 Sz29 (H.bl 2) rfl rfl)) ?_
 refine s_val (x_ld (p := Pq av) (v := aq) rfl (ldb_sc Sc22 (H.bl 1) rfl)) ?_
 obtain ⟨bM, bp, hM⟩ := M.e_bind hM
 refine s_call cf46 [.agg #[ag, ah, ai, aj, I am, I ao, ak], aq] rfl (zcp az aA aB aC am ao aD watches (aO.app _) aP (aQ.app _) aR (aS.app _) aT (aU.app _) aV (aW.app _) aX (aY.app _) aE bp _ (H.gt 3)) ?_
 rintro vq bN (⟨r1, r2, bq, hvq, aa, br⟩ | ⟨aI, aJ, ab, ac, ae, bn, bt, bu, hvq, aa, aG⟩)
 ·subst bq
  subst vq
  try dsimp only at hM
  replace H := H.bk aa
  clear aa
  refine zM (.tuple #[.pointer none, .agg (encB r1).toArray, I r2]) rfl ?_
  refine zX [.pointer none, .agg (encB r1).toArray, I r2] (.pointer none) rfl rfl ?_
  refine zX [.pointer none, .agg (encB r1).toArray, I r2] (.agg (encB r1).toArray) rfl rfl ?_
  refine zX [.pointer none, .agg (encB r1).toArray, I r2] (I r2) rfl rfl ?_
  refine t_alloc (cs := encB (List.replicate 12 false)) H Al96 rfl ?_
  intro ax bO H
  have a7 : (List.replicate 12 false).length = 12 := by simp
  refine zA (.pointer none) rfl ?_
  refine t_stArrA (k := 0) (b := ax) (l := List.replicate 12 false) (l' := r1) (L' := [cBlk ax (encB r1) 96, cBlk aw [au] 22, cBlk av [aq] 22, cBlk a6 [ag, ah, ai, aj, I am, I ao, ak] 29]) H rfl rfl rfl Sz96 a7 br rfl ?_
  intro bP H
  refine zA (I r2) rfl ?_
  refine s_nil ?_
  refine W.seq ?_
  refine W.block ?_
  refine W.seq ?_
  refine W.region rfl ?_
  refine zM (I r2) rfl ?_
  refine zC r2 0 (r2 != 0) rfl rfl rfl ?_
  refine zA (B (r2 != 0)) rfl ?_
  refine s_nil ?_
  refine W.cond (r2 != 0) rfl (fun aK => ?_) (fun aK => ?_)
  ·replace hM := M.e_t hM aK
   simp only [qy1, qy2, qy3, qy4, qy5, qy6, ne_eq, qy7] at aK
   refine W.seq ?_
   refine W.region rfl ?_
   refine zM (I r2) rfl ?_
   refine zA (.slice none 0 0) rfl ?_
   refine zA (.slice none 0 0) rfl ?_
   refine zA (I r2) rfl ?_
   refine s_nil ?_
   replace H := H.pk []
   refine W.ret ?_
   have ay := M.e_pure hM
   replace H := H.nilOwn (α := Int) 3
   replace H := H.nilOwn (α := Int) 3
   exact ⟨_, resE_tmp3 rfl, ⟨([]), ([]), r2, (.slice none 0 0), (.slice none 0 0), ay, rfl, (H.pk [1, 0])⟩⟩
  replace hM := M.e_f hM aK
  exact (M.e_fail hM).elim
 subst bu
 subst vq
 try dsimp only at hM
 replace H := H.bk aa
 clear aa
 refine zM (.tuple #[Pq ae, .agg (encB ab).toArray, I ac]) rfl ?_
 refine zX [Pq ae, .agg (encB ab).toArray, I ac] (Pq ae) rfl rfl ?_
 refine zX [Pq ae, .agg (encB ab).toArray, I ac] (.agg (encB ab).toArray) rfl rfl ?_
 refine zX [Pq ae, .agg (encB ab).toArray, I ac] (I ac) rfl rfl ?_
 refine t_alloc (cs := encB (List.replicate 12 false)) H Al96 rfl ?_
 intro ax bQ H
 have a7 : (List.replicate 12 false).length = 12 := by simp
 refine zA (Pq ae) rfl ?_
 refine t_stArrA (k := 0) (b := ax) (l := List.replicate 12 false) (l' := ab) (L' := [cBlk ax (encB ab) 96, cBlk ae [ag, ah, ai, aj, I aI, I aJ, ak, .map (some bn)] 111, cMem encDm bn bt (zaa az aA aB aC aI aJ aD), cBlk aw [au] 22, cBlk av [aq] 22, cBlk a6 [ag, ah, ai, aj, I am, I ao, ak] 29]) H rfl rfl rfl Sz96 a7 aG rfl ?_
 intro bR H
 refine zA (I ac) rfl ?_
 refine s_nil ?_
 refine W.seq ?_
 refine W.block ?_
 refine W.seq ?_
 refine W.region rfl ?_
 refine zM (I ac) rfl ?_
 refine zC ac 0 (ac != 0) rfl rfl rfl ?_
 refine zA (B (ac != 0)) rfl ?_
 refine s_nil ?_
 refine W.cond (ac != 0) rfl (fun aL => ?_) (fun aL => ?_)
 ·replace hM := M.e_t hM aL
  exact (M.e_fail hM).elim
 replace hM := M.e_f hM aL
 simp only [qy1, qy2, qy3, qy4, qy5, qy6, ne_eq, qy7] at aL
 refine W.seq ?_
 refine W.region rfl ?_
 refine s_val (x_ld (p := Pq aw) (v := au) rfl (ldb_sc Sc22 (H.bl 3) rfl)) ?_
 have bS := (aF).len_le
 refine s_val (x_lenS T22.und rfl aF) ?_
 refine s_val (x_ld (p := Pq av) (v := aq) rfl (ldb_sc Sc22 (H.bl 4) rfl)) ?_
 have bT := (aE).len_le
 refine s_val (x_lenS T22.und rfl aE) ?_
 refine zC (thresholds.length : Int) (watches.length : Int) ((thresholds.length : Int) != (watches.length : Int)) rfl rfl rfl ?_
 refine zA (B ((thresholds.length : Int) != (watches.length : Int))) rfl ?_
 refine s_nil ?_
 refine W.cond ((thresholds.length : Int) != (watches.length : Int)) rfl (fun aH => ?_) (fun aH => ?_)
 ·replace hM := M.e_t hM aH
  simp only [qy1, qy2, qy3, qy4, qy5, qy6, ne_eq, qy7] at aH
  refine W.seq ?_
  refine W.region rfl ?_
  refine zA (.slice none 0 0) rfl ?_
  refine zA (.slice none 0 0) rfl ?_
  refine zA (I 2) rfl ?_
  refine s_nil ?_
  replace H := H.pk []
  refine W.ret ?_
  have ay := M.e_pure hM
  replace H := H.nilOwn (α := Int) 3
  replace H := H.nilOwn (α := Int) 3
  exact ⟨_, resE_tmp3 rfl, ⟨([]), ([]), 2, (.slice none 0 0), (.slice none 0 0), ay, rfl, (H.pk [1, 0])⟩⟩
 replace hM := M.e_f hM aH
 simp only [qy1, qy2, qy3, qy4, qy5, qy6, ne_eq, qy7] at aH
 refine W.seq ?_
 refine W.region rfl ?_
 refine s_val (x_ld (p := Pq aw) (v := au) rfl (ldb_sc Sc22 (H.bl 3) rfl)) ?_
 obtain ⟨bU, bv, hM⟩ := M.e_bind hM
 refine s_call cf53 [au, .func (.func 54) #[] #[]] rfl (zc0 thresholds (fun a8 => zbb a8) (aZ.app _) aF ⟨54, [], rfl, cf54, fun bo bV bW bw a8 bX bx bY bz bA => by obtain rfl := Arg.int bz; exact (zdW a8 bA bo (St.refl bx)).mono fun bw bo ⟨bZ, bB, bC, bD⟩ => by subst bB; exact ⟨bC, bD⟩⟩ bv _ (H.gt 6)) ?_
 rintro vq b3 ⟨r3, bE, hvq, aa⟩
 subst bE
 subst vq
 try dsimp only at hM
 replace H := H.bk aa
 clear aa
 refine s_val (x_not (b := r3) rfl) ?_
 refine zA (B (!r3)) rfl ?_
 refine s_nil ?_
 refine W.cond (!r3) rfl (fun ba => ?_) (fun ba => ?_)
 ·replace hM := M.e_t hM ba
  refine W.seq ?_
  refine W.region rfl ?_
  refine zA (.slice none 0 0) rfl ?_
  refine zA (.slice none 0 0) rfl ?_
  refine zA (I 4) rfl ?_
  refine s_nil ?_
  replace H := H.pk []
  refine W.ret ?_
  have ay := M.e_pure hM
  replace H := H.nilOwn (α := Int) 3
  replace H := H.nilOwn (α := Int) 3
  exact ⟨_, resE_tmp3 rfl, ⟨([]), ([]), 4, (.slice none 0 0), (.slice none 0 0), ay, rfl, (H.pk [1, 0])⟩⟩
 replace hM := M.e_f hM ba
 refine W.skip ?_
 refine W.seq ?_
 refine W.region rfl ?_
 refine s_val (x_mf (fs := []) (cs := [Pq av, Pq aw]) rfl rfl) ?_
 refine t_alloc (cs := [.nilFunc]) H Al106 rfl ?_
 intro ap b4 H
 refine t_sw 0 0 [.func (.func 55) #[] #[Pq av, Pq aw]] (.func (.func 55) #[] #[Pq av, Pq aw]) H rfl rfl Sz106 rfl rfl rfl rfl ?_
 intro b5 H
 refine s_nil ?_
 refine W.seq ?_
 refine W.region rfl ?_
 refine zM (Pq ae) rfl ?_
 refine s_val (x_ld (p := Pq ax) (v := .agg (encB ab).toArray) rfl (ldArrA Ag96 Sz96 aG (H.bl 1))) ?_
 refine s_val (x_mf (fs := []) (cs := [Pq ap]) rfl rfl) ?_
 refine s_val (x_bld (ps := [(0, .func (.func 57) #[] #[Pq ap])]) (zs := [.nilFunc]) (L' := [.func (.func 57) #[] #[Pq ap]]) rfl Tryz.underlying108 Al108 rfl (Bd108 Tryz.underlying108) (.cons (cs := [.func (.func 57) #[] #[Pq ap]]) rfl rfl rfl rfl rfl <| .nil)) ?_
 obtain ⟨b6, bF, hM⟩ := M.e_bind hM
 refine s_call cf51 [Pq ae, .agg (encB ab).toArray, .agg #[.func (.func 57) #[] #[Pq ap]]] rfl (zdr az aA aB aC aI aJ aD ab watches thresholds (aO.app _) aP (aQ.app _) aR (aS.app _) aT (aU.app _) aV (aW.app _) aX (Has.here (k := 2) rfl) aG (aY.app _) aE (Has.here (k := 5) rfl) (aZ.app _) aF (Has.here (k := 4) rfl) (Has.here (k := 0) rfl) bF _ (H.gt 7)) ?_
 rintro vq b7 ⟨r4, aM, bG, hvq, aa⟩
 subst bG
 subst vq
 try dsimp only at hM
 replace H := H.bk aa
 clear aa
 refine zA aM rfl ?_
 refine s_nil ?_
 refine W.seq ?_
 refine W.region rfl ?_
 refine zM (Pq ae) rfl ?_
 refine s_val (x_ld (p := Pq ax) (v := .agg (encB ab).toArray) rfl (ldArrA Ag96 Sz96 aG (H.bl 2))) ?_
 refine s_val (x_mf (fs := []) (cs := [Pq ap]) rfl rfl) ?_
 refine s_val (x_bld (ps := [(0, .func (.func 58) #[] #[Pq ap])]) (zs := [.nilFunc]) (L' := [.func (.func 58) #[] #[Pq ap]]) rfl Tryz.underlying108 Al108 rfl (Bd108 Tryz.underlying108) (.cons (cs := [.func (.func 58) #[] #[Pq ap]]) rfl rfl rfl rfl rfl <| .nil)) ?_
 obtain ⟨b8, bH, hM⟩ := M.e_bind hM
 refine s_call cf51 [Pq ae, .agg (encB ab).toArray, .agg #[.func (.func 58) #[] #[Pq ap]]] rfl (zdT az aA aB aC aI aJ aD ab watches thresholds (aO.app _) aP (aQ.app _) aR (aS.app _) aT (aU.app _) aV (aW.app _) aX (Has.here (k := 3) rfl) aG (aY.app _) aE (Has.here (k := 6) rfl) (aZ.app _) aF (Has.here (k := 5) rfl) (Has.here (k := 1) rfl) bH _ (H.gt 8)) ?_
 rintro vq b9 ⟨r5, aN, bI, hvq, aa⟩
 subst bI
 subst vq
 try dsimp only at hM
 replace H := H.bk aa
 clear aa
 refine zA aN rfl ?_
 refine s_nil ?_
 replace H := H.pk [0, 1]
 refine W.seq ?_
 refine W.region rfl ?_
 refine zM aM rfl ?_
 refine zM aN rfl ?_
 refine zA aM rfl ?_
 refine zA aN rfl ?_
 refine zA (I 0) rfl ?_
 refine s_nil ?_
 refine W.ret ?_
 have ay := M.e_pure hM
 exact ⟨_, resE_tmp3 rfl, ⟨r4, r5, 0, aM, aN, ay, rfl, (H.pk [1, 0])⟩⟩

def zbU : M Bool :=
  M.bind (zag 4) fun (r0, r1, r2, r3, r4, r5, r6) =>
  M.bind (zcE r0 r1 r2 r3 r4 r5 r6 (⟨(0 : Int), (0 : Int)⟩ : Dem)) fun (bg, aj) =>
  M.bind (zag 4) fun (bh, bi, bj, bm, bn, bo, bp) =>
  M.bind (zcE bh bi bj bm bn bo bp (⟨(1 : Int), (0 : Int)⟩ : Dem)) fun (av, ak) =>
  M.bind (zag 4) fun (bq, br, bt, bu, bv, bw, bx) =>
  M.bind (zb5 bq br bt bu bv bw bx) fun (bZ, am) =>
  M.bind (zag 3) fun (bz, bA, bB, bC, bD, bE, bF) =>
  M.bind (zb5 bz bA bB bC bD bE bF) fun (aw, ao) =>
  M.bind (zag 1) fun (bG, bH, bI, bJ, bK, bL, bM) =>
  M.bind (zb5 bG bH bI bJ bK bL bM) fun (bN, ap) =>
  M.bind (zag 4) fun (bO, bP, bQ, bR, bS, bT, bU) =>
  M.bind (zc2 bO bP bQ bR bS bT bU 0 0) fun (bc, bf, aq) =>
  M.bind (M.opt (!((((((aj != 0) || (ak != 0)) || (am != 6)) || (ao != 0)) || (ap != 0)) || (aq != 0))) (zab bg ([(0 : Int)])) false) fun r7 =>
  M.bind (M.opt (!(((((((((aj != 0) || (ak != 0)) || (am != 6)) || (ao != 0)) || (ap != 0)) || (aq != 0)) || (!r7)) || (decide (0 < (av.length : Int)))) || ((aw.length : Int) != 2))) (zab bN ([(2 : Int)])) false) fun r8 =>
  bif !((((((((((aj != 0) || (ak != 0)) || (am != 6)) || (ao != 0)) || (ap != 0)) || (aq != 0)) || (!r7)) || (decide (0 < (av.length : Int)))) || ((aw.length : Int) != 2)) || (!r8)) then (
  M.bind (za2 6 10) fun (bV, bW) =>
  bif (((((((((((aj != 0) || (ak != 0)) || (am != 6)) || (ao != 0)) || (ap != 0)) || (aq != 0)) || (!r7)) || (decide (0 < (av.length : Int)))) || ((aw.length : Int) != 2)) || (!r8)) || (!(decide ((⟨(bc : Int), (bf : Int)⟩ : Span) = (⟨(bV : Int), (bW : Int)⟩ : Span))))) then (
  M.pure false)
  else (
  M.bind (zag 1) fun (ax, ay, az, aA, aB, aC, aD) =>
  M.bind (zaQ ax ay az aA aB aC aD ([(2 : Int)])) fun (aE, aF, aa) =>
  M.bind (zag 1) fun (aG, aH, aI, aJ, aK, aL, aM) =>
  M.bind (zah aG aH aI aJ aK aL aM ([(2 : Int)]) ([(250 : Int)])) fun (ag, ah, ab) =>
  M.bind (zag 1) fun (aN, aO, aP, aQ, aR, aS, aT) =>
  M.bind (zah aN aO aP aQ aR aS aT ([(2 : Int)]) ([(240 : Int)])) fun (bX, aU, ac) =>
  M.bind (zag 1) fun (aV, aW, aX, aY, aZ, a6, a7) =>
  M.bind (zah aV aW aX aY aZ a6 a7 ([(2 : Int)]) ([(251 : Int)])) fun (a8, bY, ae) =>
  M.bind (M.opt ((((aa == 0) && (ab == 0)) && (ac == 0)) && (ae == 0)) (zab aE ([(250 : Int)])) false) fun r9 =>
  M.bind (M.opt (((((aa == 0) && (ab == 0)) && (ac == 0)) && (ae == 0)) && r9) (zab aF ([(0 : Int)])) false) fun ai =>
  M.grd ((!((((((aa == 0) && (ab == 0)) && (ac == 0)) && (ae == 0)) && r9) && ai) || (decide ((-9223372036854775808 : Int) <= ((ag.length : Int) + (ah.length : Int))) && decide (((ag.length : Int) + (ah.length : Int)) <= (9223372036854775807 : Int))))) <|
  M.bind (M.opt (((((((aa == 0) && (ab == 0)) && (ac == 0)) && (ae == 0)) && r9) && ai) && (((ag.length : Int) + (ah.length : Int)) == 0)) (zab aU ([(1 : Int)])) false) fun au =>
  M.bind (M.opt ((((((((aa == 0) && (ab == 0)) && (ac == 0)) && (ae == 0)) && r9) && ai) && (((ag.length : Int) + (ah.length : Int)) == 0)) && au) (zab a8 ([(0 : Int)])) false) fun ba =>
  M.pure (((((((((aa == 0) && (ab == 0)) && (ac == 0)) && (ae == 0)) && r9) && ai) && (((ag.length : Int) + (ah.length : Int)) == 0)) && au) && ba)))
  else (
  bif (((((((((((aj != 0) || (ak != 0)) || (am != 6)) || (ao != 0)) || (ap != 0)) || (aq != 0)) || (!r7)) || (decide (0 < (av.length : Int)))) || ((aw.length : Int) != 2)) || (!r8)) || (!(decide ((⟨(bc : Int), (bf : Int)⟩ : Span) = (⟨(0 : Int), (0 : Int)⟩ : Span))))) then (
  M.pure false)
  else (
  M.bind (zag 1) fun (ax, ay, az, aA, aB, aC, aD) =>
  M.bind (zaQ ax ay az aA aB aC aD ([(2 : Int)])) fun (aE, aF, aa) =>
  M.bind (zag 1) fun (aG, aH, aI, aJ, aK, aL, aM) =>
  M.bind (zah aG aH aI aJ aK aL aM ([(2 : Int)]) ([(250 : Int)])) fun (ag, ah, ab) =>
  M.bind (zag 1) fun (aN, aO, aP, aQ, aR, aS, aT) =>
  M.bind (zah aN aO aP aQ aR aS aT ([(2 : Int)]) ([(240 : Int)])) fun (bX, aU, ac) =>
  M.bind (zag 1) fun (aV, aW, aX, aY, aZ, a6, a7) =>
  M.bind (zah aV aW aX aY aZ a6 a7 ([(2 : Int)]) ([(251 : Int)])) fun (a8, bY, ae) =>
  M.bind (M.opt ((((aa == 0) && (ab == 0)) && (ac == 0)) && (ae == 0)) (zab aE ([(250 : Int)])) false) fun r9 =>
  M.bind (M.opt (((((aa == 0) && (ab == 0)) && (ac == 0)) && (ae == 0)) && r9) (zab aF ([(0 : Int)])) false) fun ai =>
  M.grd ((!((((((aa == 0) && (ab == 0)) && (ac == 0)) && (ae == 0)) && r9) && ai) || (decide ((-9223372036854775808 : Int) <= ((ag.length : Int) + (ah.length : Int))) && decide (((ag.length : Int) + (ah.length : Int)) <= (9223372036854775807 : Int))))) <|
  M.bind (M.opt (((((((aa == 0) && (ab == 0)) && (ac == 0)) && (ae == 0)) && r9) && ai) && (((ag.length : Int) + (ah.length : Int)) == 0)) (zab aU ([(1 : Int)])) false) fun au =>
  M.bind (M.opt ((((((((aa == 0) && (ab == 0)) && (ac == 0)) && (ae == 0)) && r9) && ai) && (((ag.length : Int) + (ah.length : Int)) == 0)) && au) (zab a8 ([(0 : Int)])) false) fun ba =>
  M.pure (((((((((aa == 0) && (ab == 0)) && (ac == 0)) && (ae == 0)) && r9) && ai) && (((ag.length : Int) + (ah.length : Int)) == 0)) && au) && ba)))
theorem zc4 {R : List Chunk}    {r : Bool} (hM : (zbU).Ends r) (w : World) (H : St w w [] R) : Ret Tryz.prog 7 #[] w fun v w' => ∃ (y0 : Bool), y0 = r /\ v = B y0 /\ St w w' [] R := by
 refine ret_of_W Tryz.func7 rfl rfl rfl ?_
 refine W.seq ?_
 refine W.region rfl ?_
 refine zA (B false) rfl ?_
 refine s_nil ?_
 refine W.seq ?_
 refine W.region rfl ?_
 obtain ⟨f6, cx, hM⟩ := M.e_bind hM
 refine s_call cf42 [I 4] rfl (zai 4 cx _ (H.gt 0)) ?_
 rintro vq f9 ⟨r0, r1, r2, r3, r4, r5, r6, cy, cz, cA, cB, cC, ga, gc, cD, hvq, ah, cE⟩
 subst cD
 subst vq
 try dsimp only at hM
 replace H := H.bk ah
 clear ah
 refine s_val (x_bld (ps := [(0, I 0)]) (zs := [I 0, I 0]) (L' := [I 0, I 0]) rfl Tryz.underlying61 Al61 rfl (Bd61 Tryz.underlying61) (.cons (cs := [I 0]) rfl rfl rfl rfl rfl <| .nil)) ?_
 obtain ⟨gf, cF, hM⟩ := M.e_bind hM
 refine s_call cf32 [.agg #[cy, cz, cA, cB, I r4, I r5, cC], .agg #[I 0, I 0]] rfl (zcK r0 r1 r2 r3 r4 r5 r6 (⟨(0 : Int), (0 : Int)⟩ : Dem) (rdo 0) (H.os 0) (rdo 1) (H.os 1) (rdo 2) (H.os 2) (rdo 3) (H.os 3) (Reads.sup (rdo 4) (Reads.of (k := 5) rfl roLe)) (rowSl rfl (H.get (k := 4) rfl) (roLe _ (H.get (k := 5) rfl)) cE) cF _ (H.gt 6)) ?_
 rintro vq gg ⟨b6, ag, aL, cG, hvq, ah⟩
 subst cG
 subst vq
 try dsimp only at hM
 replace H := H.bk ah
 clear ah
 refine zM (.tuple #[aL, I ag]) rfl ?_
 refine zX [aL, I ag] aL rfl rfl ?_
 refine zX [aL, I ag] (I ag) rfl rfl ?_
 refine zA aL rfl ?_
 refine zA (I ag) rfl ?_
 refine s_nil ?_
 replace H := H.pk [0]
 refine W.seq ?_
 refine W.region rfl ?_
 obtain ⟨gh, cH, hM⟩ := M.e_bind hM
 refine s_call cf42 [I 4] rfl (zai 4 cH _ (H.gt 1)) ?_
 rintro vq gi ⟨cI, cJ, cK, cL, b7, b8, cM, cN, cO, cP, cQ, cR, gj, gk, cS, hvq, ah, cT⟩
 subst cS
 subst vq
 try dsimp only at hM
 replace H := H.bk ah
 clear ah
 refine s_val (x_bld (ps := [(0, I 1)]) (zs := [I 0, I 0]) (L' := [I 1, I 0]) rfl Tryz.underlying61 Al61 rfl (Bd61 Tryz.underlying61) (.cons (cs := [I 1]) rfl rfl rfl rfl rfl <| .nil)) ?_
 obtain ⟨gl, cU, hM⟩ := M.e_bind hM
 refine s_call cf32 [.agg #[cN, cO, cP, cQ, I b7, I b8, cR], .agg #[I 1, I 0]] rfl (zcK cI cJ cK cL b7 b8 cM (⟨(1 : Int), (0 : Int)⟩ : Dem) (rdo 0) (H.os 0) (rdo 1) (H.os 1) (rdo 2) (H.os 2) (rdo 3) (H.os 3) (Reads.sup (rdo 4) (Reads.of (k := 5) rfl roLe)) (rowSl rfl (H.get (k := 4) rfl) (roLe _ (H.get (k := 5) rfl)) cT) cU _ (H.gt 7)) ?_
 rintro vq gm ⟨av, ai, aN, cV, hvq, ah⟩
 subst cV
 subst vq
 try dsimp only at hM
 replace H := H.bk ah
 clear ah
 refine zM (.tuple #[aN, I ai]) rfl ?_
 refine zX [aN, I ai] aN rfl rfl ?_
 refine zX [aN, I ai] (I ai) rfl rfl ?_
 refine zA aN rfl ?_
 refine zA (I ai) rfl ?_
 refine s_nil ?_
 replace H := H.pk [0, 7]
 refine W.seq ?_
 refine W.region rfl ?_
 obtain ⟨gn, cW, hM⟩ := M.e_bind hM
 refine s_call cf42 [I 4] rfl (zai 4 cW _ (H.gt 2)) ?_
 rintro vq gp ⟨cX, cY, cZ, c6, b9, ca, c7, c8, c9, da, db, dc, gq, gr, dd, hvq, ah, de⟩
 subst dd
 subst vq
 try dsimp only at hM
 replace H := H.bk ah
 clear ah
 obtain ⟨gu, dg, hM⟩ := M.e_bind hM
 refine s_call cf36 [.agg #[c8, c9, da, db, I b9, I ca, dc]] rfl (zcg cX cY cZ c6 b9 ca c7 (rdo 0) (H.os 0) (rdo 1) (H.os 1) (rdo 2) (H.os 2) (rdo 3) (H.os 3) (Reads.sup (rdo 4) (Reads.of (k := 5) rfl roLe)) (rowSl rfl (H.get (k := 4) rfl) (roLe _ (H.get (k := 5) rfl)) de) dg _ (H.gt 8)) ?_
 rintro vq gv ⟨gw, aj, aR, di, hvq, ah⟩
 subst di
 subst vq
 try dsimp only at hM
 replace H := H.bk ah
 clear ah
 refine zM (.tuple #[aR, I aj]) rfl ?_
 refine zX [aR, I aj] aR rfl rfl ?_
 refine zX [aR, I aj] (I aj) rfl rfl ?_
 refine zA aR rfl ?_
 refine zA (I aj) rfl ?_
 refine s_nil ?_
 replace H := H.pk [7, 8]
 refine W.seq ?_
 refine W.region rfl ?_
 obtain ⟨gx, dj, hM⟩ := M.e_bind hM
 refine s_call cf42 [I 3] rfl (zai 3 dj _ (H.gt 2)) ?_
 rintro vq gy ⟨dk, dm, dp, dq, cb, cc, dr, dt, du, dv, dw, dx, gz, gA, dy, hvq, ah, dz⟩
 subst dy
 subst vq
 try dsimp only at hM
 replace H := H.bk ah
 clear ah
 obtain ⟨gB, dA, hM⟩ := M.e_bind hM
 refine s_call cf36 [.agg #[dt, du, dv, dw, I cb, I cc, dx]] rfl (zcg dk dm dp dq cb cc dr (rdo 0) (H.os 0) (rdo 1) (H.os 1) (rdo 2) (H.os 2) (rdo 3) (H.os 3) (Reads.sup (rdo 4) (Reads.of (k := 5) rfl roLe)) (rowSl rfl (H.get (k := 4) rfl) (roLe _ (H.get (k := 5) rfl)) dz) dA _ (H.gt 8)) ?_
 rintro vq gC ⟨aw, ak, aO, dB, hvq, ah⟩
 subst dB
 subst vq
 try dsimp only at hM
 replace H := H.bk ah
 clear ah
 refine zM (.tuple #[aO, I ak]) rfl ?_
 refine zX [aO, I ak] aO rfl rfl ?_
 refine zX [aO, I ak] (I ak) rfl rfl ?_
 refine zA aO rfl ?_
 refine zA (I ak) rfl ?_
 refine s_nil ?_
 replace H := H.pk [0, 7, 8]
 refine W.seq ?_
 refine W.region rfl ?_
 obtain ⟨gD, dC, hM⟩ := M.e_bind hM
 refine s_call cf42 [I 1] rfl (zai 1 dC _ (H.gt 3)) ?_
 rintro vq gE ⟨dD, dE, dF, dG, ce, cf, dH, dI, dJ, dK, dL, dM, gF, gG, dN, hvq, ah, dO⟩
 subst dN
 subst vq
 try dsimp only at hM
 replace H := H.bk ah
 clear ah
 obtain ⟨gH, dP, hM⟩ := M.e_bind hM
 refine s_call cf36 [.agg #[dI, dJ, dK, dL, I ce, I cf, dM]] rfl (zcg dD dE dF dG ce cf dH (rdo 0) (H.os 0) (rdo 1) (H.os 1) (rdo 2) (H.os 2) (rdo 3) (H.os 3) (Reads.sup (rdo 4) (Reads.of (k := 5) rfl roLe)) (rowSl rfl (H.get (k := 4) rfl) (roLe _ (H.get (k := 5) rfl)) dO) dP _ (H.gt 9)) ?_
 rintro vq gI ⟨cg, ao, aM, dQ, hvq, ah⟩
 subst dQ
 subst vq
 try dsimp only at hM
 replace H := H.bk ah
 clear ah
 refine zM (.tuple #[aM, I ao]) rfl ?_
 refine zX [aM, I ao] aM rfl rfl ?_
 refine zX [aM, I ao] (I ao) rfl rfl ?_
 refine zA aM rfl ?_
 refine zA (I ao) rfl ?_
 refine s_nil ?_
 replace H := H.pk [0, 7, 8, 9]
 refine W.seq ?_
 refine W.region rfl ?_
 obtain ⟨gJ, dR, hM⟩ := M.e_bind hM
 refine s_call cf42 [I 4] rfl (zai 4 dR _ (H.gt 4)) ?_
 rintro vq gK ⟨dS, dT, dU, dV, ci, cj, dW, dX, dY, dZ, d6, d7, gL, gM, d8, hvq, ah, d9⟩
 subst d8
 subst vq
 try dsimp only at hM
 replace H := H.bk ah
 clear ah
 obtain ⟨gN, ea, hM⟩ := M.e_bind hM
 refine s_call cf25 [.agg #[dX, dY, dZ, d6, I ci, I cj, d7], I 0, I 0] rfl (zdU dS dT dU dV ci cj dW 0 0 (rdo 0) (H.os 0) (rdo 1) (H.os 1) (rdo 2) (H.os 2) (rdo 3) (H.os 3) (Reads.sup (rdo 4) (Reads.of (k := 5) rfl roLe)) (rowSl rfl (H.get (k := 4) rfl) (roLe _ (H.get (k := 5) rfl)) d9) ea _ (H.gt 10)) ?_
 rintro vq gO ⟨az, aA, ap, eb, hvq, ah⟩
 subst eb
 subst vq
 try dsimp only at hM
 replace H := H.bk ah
 clear ah
 refine zM (.tuple #[.agg #[I az, I aA], I ap]) rfl ?_
 refine zX [.agg #[I az, I aA], I ap] (.agg #[I az, I aA]) rfl rfl ?_
 refine zX [.agg #[I az, I aA], I ap] (I ap) rfl rfl ?_
 refine t_alloc (cs := [I 0, I 0]) H Al26 rfl ?_
 intro ck gP H
 refine t_sw 0 0 [I az, I aA] (.agg #[I az, I aA]) H rfl rfl Sz26 rfl rfl rfl rfl ?_
 intro gQ H
 refine zA (I ap) rfl ?_
 refine s_nil ?_
 replace H := H.pk [0, 7, 8, 9, 10]
 refine W.seq ?_
 refine W.seq ?_
 refine W.draw (fun W => St w W [cBlk ck [I az, I aA] 26, cOwn (α := Int) 3 aM cg, cOwn (α := Int) 3 aO aw, cOwn (α := Int) 3 aN av, cOwn (α := Int) 3 aL b6] R) [(0, true), (1, true), (2, true), (3, true), (4, true), (5, true), (6, true), (7, true), (8, true), (9, true), (10, true), (11, true), (12, true), (13, true), (14, true), (15, true), (16, true), (17, true), (18, true), (19, true), (20, true), (21, true), (22, true), (23, true), (24, false), (25, false), (26, true), (27, true), (28, true), (29, true), (30, true), (31, true), (32, true), (33, true), (34, true), (35, true), (36, true), (37, true), (38, true), (39, true), (40, false), (41, false), (42, true), (43, true), (44, true), (45, true), (46, false), (47, true), (48, true)] mixed (by decide +kernel) rfl ?_
 intro gR aQ
 replace H := H.ext aQ
 clear aQ
 refine ⟨(H.pk [0, 1, 2, 3, 4]), ?_⟩
 refine d_q rfl (fun w' H => x_mv (v := I ag) rfl) ?_
 refine d_q rfl (fun w' H => x_cmp (kd := .i64) (a := ag) (b := 0) (r := ag != 0) rfl rfl rfl) ?_
 refine d_q rfl (fun w' H => x_mv (v := B (ag != 0)) rfl) ?_
 refine d_qg (!(ag != 0)) rfl (gy_f rfl) (fun hg => (fun w' H => x_mv (v := I ai) rfl)) ?_
 refine d_qg (!(ag != 0)) rfl (gy_f rfl) (fun hg => (fun w' H => x_cmp (kd := .i64) (a := ai) (b := 0) (r := ai != 0) (gd_of (c := !(ag != 0)) hg (I ai)) rfl rfl)) ?_
 refine d_q rfl (fun w' H => x_por (b := ag != 0) (r := ai != 0) rfl rfl (fun hb => gd_of (c := !(ag != 0)) (by first | exact hb | (rw [hb]; rfl) | simp_all) (B (ai != 0)))) ?_
 refine d_q rfl (fun w' H => x_mv (v := B ((ag != 0) || (ai != 0))) rfl) ?_
 refine d_qg (!((ag != 0) || (ai != 0))) rfl (gy_f rfl) (fun hg => (fun w' H => x_mv (v := I aj) rfl)) ?_
 refine d_qg (!((ag != 0) || (ai != 0))) rfl (gy_f rfl) (fun hg => (fun w' H => x_cmp (kd := .i64) (a := aj) (b := 6) (r := aj != 6) (gd_of (c := !((ag != 0) || (ai != 0))) hg (I aj)) rfl rfl)) ?_
 refine d_q rfl (fun w' H => x_por (b := ((ag != 0) || (ai != 0))) (r := aj != 6) rfl rfl (fun hb => gd_of (c := !((ag != 0) || (ai != 0))) (by first | exact hb | (rw [hb]; rfl) | simp_all) (B (aj != 6)))) ?_
 refine d_q rfl (fun w' H => x_mv (v := B (((ag != 0) || (ai != 0)) || (aj != 6))) rfl) ?_
 refine d_qg (!(((ag != 0) || (ai != 0)) || (aj != 6))) rfl (gy_f rfl) (fun hg => (fun w' H => x_mv (v := I ak) rfl)) ?_
 refine d_qg (!(((ag != 0) || (ai != 0)) || (aj != 6))) rfl (gy_f rfl) (fun hg => (fun w' H => x_cmp (kd := .i64) (a := ak) (b := 0) (r := ak != 0) (gd_of (c := !(((ag != 0) || (ai != 0)) || (aj != 6))) hg (I ak)) rfl rfl)) ?_
 refine d_q rfl (fun w' H => x_por (b := (((ag != 0) || (ai != 0)) || (aj != 6))) (r := ak != 0) rfl rfl (fun hb => gd_of (c := !(((ag != 0) || (ai != 0)) || (aj != 6))) (by first | exact hb | (rw [hb]; rfl) | simp_all) (B (ak != 0)))) ?_
 refine d_q rfl (fun w' H => x_mv (v := B ((((ag != 0) || (ai != 0)) || (aj != 6)) || (ak != 0))) rfl) ?_
 refine d_qg (!((((ag != 0) || (ai != 0)) || (aj != 6)) || (ak != 0))) rfl (gy_f rfl) (fun hg => (fun w' H => x_mv (v := I ao) rfl)) ?_
 refine d_qg (!((((ag != 0) || (ai != 0)) || (aj != 6)) || (ak != 0))) rfl (gy_f rfl) (fun hg => (fun w' H => x_cmp (kd := .i64) (a := ao) (b := 0) (r := ao != 0) (gd_of (c := !((((ag != 0) || (ai != 0)) || (aj != 6)) || (ak != 0))) hg (I ao)) rfl rfl)) ?_
 refine d_q rfl (fun w' H => x_por (b := ((((ag != 0) || (ai != 0)) || (aj != 6)) || (ak != 0))) (r := ao != 0) rfl rfl (fun hb => gd_of (c := !((((ag != 0) || (ai != 0)) || (aj != 6)) || (ak != 0))) (by first | exact hb | (rw [hb]; rfl) | simp_all) (B (ao != 0)))) ?_
 refine d_q rfl (fun w' H => x_mv (v := B (((((ag != 0) || (ai != 0)) || (aj != 6)) || (ak != 0)) || (ao != 0))) rfl) ?_
 refine d_qg (!(((((ag != 0) || (ai != 0)) || (aj != 6)) || (ak != 0)) || (ao != 0))) rfl (gy_f rfl) (fun hg => (fun w' H => x_mv (v := I ap) rfl)) ?_
 refine d_qg (!(((((ag != 0) || (ai != 0)) || (aj != 6)) || (ak != 0)) || (ao != 0))) rfl (gy_f rfl) (fun hg => (fun w' H => x_cmp (kd := .i64) (a := ap) (b := 0) (r := ap != 0) (gd_of (c := !(((((ag != 0) || (ai != 0)) || (aj != 6)) || (ak != 0)) || (ao != 0))) hg (I ap)) rfl rfl)) ?_
 refine d_q rfl (fun w' H => x_por (b := (((((ag != 0) || (ai != 0)) || (aj != 6)) || (ak != 0)) || (ao != 0))) (r := ap != 0) rfl rfl (fun hb => gd_of (c := !(((((ag != 0) || (ai != 0)) || (aj != 6)) || (ak != 0)) || (ao != 0))) (by first | exact hb | (rw [hb]; rfl) | simp_all) (B (ap != 0)))) ?_
 refine d_q rfl (fun w' H => x_mv (v := B ((((((ag != 0) || (ai != 0)) || (aj != 6)) || (ak != 0)) || (ao != 0)) || (ap != 0))) rfl) ?_
 refine d_qg (!((((((ag != 0) || (ai != 0)) || (aj != 6)) || (ak != 0)) || (ao != 0)) || (ap != 0))) rfl (gy_f rfl) (fun hg => (fun w' H => x_mv (v := aL) rfl)) ?_
 refine d_l rfl ?_
 refine t_gbs (α := Int) T22 (!((((((ag != 0) || (ai != 0)) || (aj != 6)) || (ak != 0)) || (ao != 0)) || (ap != 0))) (gy_f rfl) [I 0] [(0 : Int)] H (fun _ => rfl) (.cons rfl (Flat.rep_enc _ (0 : Int)) <| .nil) rfl rfl rfl ?_
 intro cl gS gT H ec
 refine s_nil ⟨(H.pk [1, 2, 3, 4, 5]), ?_⟩
 refine d_l rfl ?_
 obtain ⟨r7, ed, hM⟩ := M.e_bind hM
 refine t_gcall (!((((((ag != 0) || (ai != 0)) || (aj != 6)) || (ak != 0)) || (ao != 0)) || (ap != 0))) (gy_f rfl) cf15 (B r7) (fun _ => [aL, cl]) (fun hg => lst2 (gd_of (c := !((((((ag != 0) || (ai != 0)) || (aj != 6)) || (ak != 0)) || (ao != 0)) || (ap != 0))) hg (aL)) (gd_of (c := !((((((ag != 0) || (ai != 0)) || (aj != 6)) || (ak != 0)) || (ao != 0)) || (ap != 0))) hg (cl))) H (fun hg => (zac b6 ([(0 : Int)]) (rdo 5) (H.os 5) (Reads.of (k := 0) rfl roLe) (ec hg) (M.e_opt ed hg) _ (H.give (A := []) rfl)).mono fun v_ w_ ⟨y_, ax, aB, H_⟩ => by subst ax; exact ⟨aB, H.via H_⟩) ?_
 intro gU H
 refine s_nil ⟨(H.pk [1, 2, 3, 4, 5]), ?_⟩
 refine d_qg (!((((((ag != 0) || (ai != 0)) || (aj != 6)) || (ak != 0)) || (ao != 0)) || (ap != 0))) rfl (gy_f rfl) (fun hg => (fun w' H => x_not (b := r7) (gd_of (c := !((((((ag != 0) || (ai != 0)) || (aj != 6)) || (ak != 0)) || (ao != 0)) || (ap != 0))) hg (B r7)))) ?_
 refine d_q rfl (fun w' H => x_por (b := ((((((ag != 0) || (ai != 0)) || (aj != 6)) || (ak != 0)) || (ao != 0)) || (ap != 0))) (r := !r7) rfl rfl (fun hb => gd_of (c := !((((((ag != 0) || (ai != 0)) || (aj != 6)) || (ak != 0)) || (ao != 0)) || (ap != 0))) (by first | exact hb | (rw [hb]; rfl) | simp_all) (B (!r7)))) ?_
 refine d_q rfl (fun w' H => x_mv (v := B (((((((ag != 0) || (ai != 0)) || (aj != 6)) || (ak != 0)) || (ao != 0)) || (ap != 0)) || (!r7))) rfl) ?_
 refine d_qg (!(((((((ag != 0) || (ai != 0)) || (aj != 6)) || (ak != 0)) || (ao != 0)) || (ap != 0)) || (!r7))) rfl (gy_f rfl) (fun hg => (fun w' H => x_mv (v := aN) rfl)) ?_
 refine d_qg (!(((((((ag != 0) || (ai != 0)) || (aj != 6)) || (ak != 0)) || (ao != 0)) || (ap != 0)) || (!r7))) rfl (gy_f rfl) (fun hg => (fun w' H => x_lenS T22.und (gd_of (c := !(((((((ag != 0) || (ai != 0)) || (aj != 6)) || (ak != 0)) || (ao != 0)) || (ap != 0)) || (!r7))) hg (aN)) (H.os 3))) ?_
 refine d_qg (!(((((((ag != 0) || (ai != 0)) || (aj != 6)) || (ak != 0)) || (ao != 0)) || (ap != 0)) || (!r7))) rfl (gy_f rfl) (fun hg => (fun w' H => x_cmp (kd := .i64) (a := (av.length : Int)) (b := 0) (r := decide (0 < (av.length : Int))) (gd_of (c := !(((((((ag != 0) || (ai != 0)) || (aj != 6)) || (ak != 0)) || (ao != 0)) || (ap != 0)) || (!r7))) hg (I (av.length : Int))) rfl rfl)) ?_
 refine d_q rfl (fun w' H => x_por (b := (((((((ag != 0) || (ai != 0)) || (aj != 6)) || (ak != 0)) || (ao != 0)) || (ap != 0)) || (!r7))) (r := decide (0 < (av.length : Int))) rfl rfl (fun hb => gd_of (c := !(((((((ag != 0) || (ai != 0)) || (aj != 6)) || (ak != 0)) || (ao != 0)) || (ap != 0)) || (!r7))) (by first | exact hb | (rw [hb]; rfl) | simp_all) (B (decide (0 < (av.length : Int)))))) ?_
 refine d_q rfl (fun w' H => x_mv (v := B ((((((((ag != 0) || (ai != 0)) || (aj != 6)) || (ak != 0)) || (ao != 0)) || (ap != 0)) || (!r7)) || (decide (0 < (av.length : Int))))) rfl) ?_
 refine d_qg (!((((((((ag != 0) || (ai != 0)) || (aj != 6)) || (ak != 0)) || (ao != 0)) || (ap != 0)) || (!r7)) || (decide (0 < (av.length : Int))))) rfl (gy_f rfl) (fun hg => (fun w' H => x_mv (v := aO) rfl)) ?_
 refine d_qg (!((((((((ag != 0) || (ai != 0)) || (aj != 6)) || (ak != 0)) || (ao != 0)) || (ap != 0)) || (!r7)) || (decide (0 < (av.length : Int))))) rfl (gy_f rfl) (fun hg => (fun w' H => x_lenS T22.und (gd_of (c := !((((((((ag != 0) || (ai != 0)) || (aj != 6)) || (ak != 0)) || (ao != 0)) || (ap != 0)) || (!r7)) || (decide (0 < (av.length : Int))))) hg (aO)) (H.os 2))) ?_
 refine d_qg (!((((((((ag != 0) || (ai != 0)) || (aj != 6)) || (ak != 0)) || (ao != 0)) || (ap != 0)) || (!r7)) || (decide (0 < (av.length : Int))))) rfl (gy_f rfl) (fun hg => (fun w' H => x_cmp (kd := .i64) (a := (aw.length : Int)) (b := 2) (r := (aw.length : Int) != 2) (gd_of (c := !((((((((ag != 0) || (ai != 0)) || (aj != 6)) || (ak != 0)) || (ao != 0)) || (ap != 0)) || (!r7)) || (decide (0 < (av.length : Int))))) hg (I (aw.length : Int))) rfl rfl)) ?_
 refine d_q rfl (fun w' H => x_por (b := ((((((((ag != 0) || (ai != 0)) || (aj != 6)) || (ak != 0)) || (ao != 0)) || (ap != 0)) || (!r7)) || (decide (0 < (av.length : Int))))) (r := (aw.length : Int) != 2) rfl rfl (fun hb => gd_of (c := !((((((((ag != 0) || (ai != 0)) || (aj != 6)) || (ak != 0)) || (ao != 0)) || (ap != 0)) || (!r7)) || (decide (0 < (av.length : Int))))) (by first | exact hb | (rw [hb]; rfl) | simp_all) (B ((aw.length : Int) != 2)))) ?_
 refine d_q rfl (fun w' H => x_mv (v := B (((((((((ag != 0) || (ai != 0)) || (aj != 6)) || (ak != 0)) || (ao != 0)) || (ap != 0)) || (!r7)) || (decide (0 < (av.length : Int)))) || ((aw.length : Int) != 2))) rfl) ?_
 refine d_qg (!(((((((((ag != 0) || (ai != 0)) || (aj != 6)) || (ak != 0)) || (ao != 0)) || (ap != 0)) || (!r7)) || (decide (0 < (av.length : Int)))) || ((aw.length : Int) != 2))) rfl (gy_f rfl) (fun hg => (fun w' H => x_mv (v := aM) rfl)) ?_
 refine d_l rfl ?_
 refine t_gbs (α := Int) T22 (!(((((((((ag != 0) || (ai != 0)) || (aj != 6)) || (ak != 0)) || (ao != 0)) || (ap != 0)) || (!r7)) || (decide (0 < (av.length : Int)))) || ((aw.length : Int) != 2))) (gy_f rfl) [I 2] [(2 : Int)] H (fun _ => rfl) (.cons rfl (Flat.rep_enc _ (2 : Int)) <| .nil) rfl rfl rfl ?_
 intro cm gV gW H ee
 refine s_nil ⟨(H.pk [2, 3, 4, 5, 6]), ?_⟩
 refine d_l rfl ?_
 obtain ⟨r8, ef, hM⟩ := M.e_bind hM
 refine t_gcall (!(((((((((ag != 0) || (ai != 0)) || (aj != 6)) || (ak != 0)) || (ao != 0)) || (ap != 0)) || (!r7)) || (decide (0 < (av.length : Int)))) || ((aw.length : Int) != 2))) (gy_f rfl) cf15 (B r8) (fun _ => [aM, cm]) (fun hg => lst2 (gd_of (c := !(((((((((ag != 0) || (ai != 0)) || (aj != 6)) || (ak != 0)) || (ao != 0)) || (ap != 0)) || (!r7)) || (decide (0 < (av.length : Int)))) || ((aw.length : Int) != 2))) hg (aM)) (gd_of (c := !(((((((((ag != 0) || (ai != 0)) || (aj != 6)) || (ak != 0)) || (ao != 0)) || (ap != 0)) || (!r7)) || (decide (0 < (av.length : Int)))) || ((aw.length : Int) != 2))) hg (cm))) H (fun hg => (zac cg ([(2 : Int)]) (rdo 3) (H.os 3) (Reads.of (k := 0) rfl roLe) (ee hg) (M.e_opt ef hg) _ (H.give (A := []) rfl)).mono fun v_ w_ ⟨y_, ax, aB, H_⟩ => by subst ax; exact ⟨aB, H.via H_⟩) ?_
 intro gX H
 refine s_nil ⟨(H.pk [2, 3, 4, 5, 6]), ?_⟩
 refine d_qg (!(((((((((ag != 0) || (ai != 0)) || (aj != 6)) || (ak != 0)) || (ao != 0)) || (ap != 0)) || (!r7)) || (decide (0 < (av.length : Int)))) || ((aw.length : Int) != 2))) rfl (gy_f rfl) (fun hg => (fun w' H => x_not (b := r8) (gd_of (c := !(((((((((ag != 0) || (ai != 0)) || (aj != 6)) || (ak != 0)) || (ao != 0)) || (ap != 0)) || (!r7)) || (decide (0 < (av.length : Int)))) || ((aw.length : Int) != 2))) hg (B r8)))) ?_
 refine d_q rfl (fun w' H => x_por (b := (((((((((ag != 0) || (ai != 0)) || (aj != 6)) || (ak != 0)) || (ao != 0)) || (ap != 0)) || (!r7)) || (decide (0 < (av.length : Int)))) || ((aw.length : Int) != 2))) (r := !r8) rfl rfl (fun hb => gd_of (c := !(((((((((ag != 0) || (ai != 0)) || (aj != 6)) || (ak != 0)) || (ao != 0)) || (ap != 0)) || (!r7)) || (decide (0 < (av.length : Int)))) || ((aw.length : Int) != 2))) (by first | exact hb | (rw [hb]; rfl) | simp_all) (B (!r8)))) ?_
 refine d_q rfl (fun w' H => x_mv (v := B ((((((((((ag != 0) || (ai != 0)) || (aj != 6)) || (ak != 0)) || (ao != 0)) || (ap != 0)) || (!r7)) || (decide (0 < (av.length : Int)))) || ((aw.length : Int) != 2)) || (!r8))) rfl) ?_
 refine d_qg (!((((((((((ag != 0) || (ai != 0)) || (aj != 6)) || (ak != 0)) || (ao != 0)) || (ap != 0)) || (!r7)) || (decide (0 < (av.length : Int)))) || ((aw.length : Int) != 2)) || (!r8))) rfl (gy_f rfl) (fun hg => (fun w' H => x_ld (p := Pq ck) (v := .agg #[I az, I aA]) rfl (ldb_ag (ds := [I az, I aA]) Ag26 Sz26 (H.bl 0) rfl rfl))) ?_
 refine d_l rfl ?_
 refine g_splitV (!((((((((((ag != 0) || (ai != 0)) || (aj != 6)) || (ak != 0)) || (ao != 0)) || (ap != 0)) || (!r7)) || (decide (0 < (av.length : Int)))) || ((aw.length : Int) != 2)) || (!r8))) (.agg #[I 0, I 0]) (gy_f rfl) (fun bc => ?_) (fun bc => ?_)
 ·replace hM := M.e_t hM bc
  obtain ⟨gY, eg, hM⟩ := M.e_bind hM
  refine s_call cf43 [I 6, I 10] rfl (zbw 6 10 eg _ (H.gt 7)) ?_
  rintro vq gZ ⟨a6, a7, eh, hvq, ah⟩
  subst eh
  subst vq
  try dsimp only at hM
  replace H := H.bk ah
  clear ah
  refine s_nil ⟨(H.pk [2, 3, 4, 5, 6]), ?_⟩
  refine d_qg (!((((((((((ag != 0) || (ai != 0)) || (aj != 6)) || (ak != 0)) || (ao != 0)) || (ap != 0)) || (!r7)) || (decide (0 < (av.length : Int)))) || ((aw.length : Int) != 2)) || (!r8))) rfl (gy_f rfl) (fun hg => (fun w' H => x_neS (eqT26 (⟨(az : Int), (aA : Int)⟩ : Span) (⟨(a6 : Int), (a7 : Int)⟩ : Span) _) gdT26 (gd_of (c := !((((((((((ag != 0) || (ai != 0)) || (aj != 6)) || (ak != 0)) || (ao != 0)) || (ap != 0)) || (!r7)) || (decide (0 < (av.length : Int)))) || ((aw.length : Int) != 2)) || (!r8))) hg (.agg #[I az, I aA])) rfl)) ?_
  refine d_q rfl (fun w' H => x_por (b := ((((((((((ag != 0) || (ai != 0)) || (aj != 6)) || (ak != 0)) || (ao != 0)) || (ap != 0)) || (!r7)) || (decide (0 < (av.length : Int)))) || ((aw.length : Int) != 2)) || (!r8))) (r := !(decide ((⟨(az : Int), (aA : Int)⟩ : Span) = (⟨(a6 : Int), (a7 : Int)⟩ : Span)))) rfl rfl (fun hb => gd_of (c := !((((((((((ag != 0) || (ai != 0)) || (aj != 6)) || (ak != 0)) || (ao != 0)) || (ap != 0)) || (!r7)) || (decide (0 < (av.length : Int)))) || ((aw.length : Int) != 2)) || (!r8))) (by first | exact hb | (rw [hb]; rfl) | simp_all) (B (!(decide ((⟨(az : Int), (aA : Int)⟩ : Span) = (⟨(a6 : Int), (a7 : Int)⟩ : Span))))))) ?_
  refine d_nil ?_
  replace H := H.pk []
  refine W.cond (((((((((((ag != 0) || (ai != 0)) || (aj != 6)) || (ak != 0)) || (ao != 0)) || (ap != 0)) || (!r7)) || (decide (0 < (av.length : Int)))) || ((aw.length : Int) != 2)) || (!r8)) || (!(decide ((⟨(az : Int), (aA : Int)⟩ : Span) = (⟨(a6 : Int), (a7 : Int)⟩ : Span))))) rfl (fun bf => ?_) (fun bf => ?_)
  ·replace hM := M.e_t hM bf
   refine W.seq ?_
   refine W.region rfl ?_
   refine zA (B false) rfl ?_
   refine s_nil ?_
   refine W.ret ?_
   have ax := M.e_pure hM
   exact ⟨_, resE_tmp rfl, ⟨false, ax, rfl, H⟩⟩
  replace hM := M.e_f hM bf
  refine W.skip ?_
  refine W.seq ?_
  refine W.region rfl ?_
  obtain ⟨g5, ei, hM⟩ := M.e_bind hM
  refine s_call cf42 [I 1] rfl (zai 1 ei _ (H.gt 0)) ?_
  rintro vq g6 ⟨bg, bh, bi, bj, aS, aT, bm, bn, bo, bp, bq, br, ej, el, em, hvq, ah, en⟩
  subst em
  subst vq
  try dsimp only at hM
  replace H := H.bk ah
  clear ah
  refine t_bs (α := Int) T22 [I 2] [(2 : Int)] H rfl (.cons rfl (Flat.rep_enc _ (2 : Int)) <| .nil) rfl rfl rfl ?_
  intro eo g7 H
  obtain ⟨g8, ep, hM⟩ := M.e_bind hM
  refine s_call cf13 [.agg #[bn, bo, bp, bq, I aS, I aT, br], eo] rfl (zcD bg bh bi bj aS aT bm ([(2 : Int)]) (rdo 1) (H.os 1) (rdo 2) (H.os 2) (rdo 3) (H.os 3) (rdo 4) (H.os 4) (Reads.sup (rdo 5) (Reads.of (k := 6) rfl roLe)) (rowSl rfl (H.get (k := 5) rfl) (roLe _ (H.get (k := 6) rfl)) en) (rdo 0) (H.os 0) ep _ (H.gt 7)) ?_
  rintro vq g9 ⟨bt, bu, aa, aC, aD, eq, hvq, ah⟩
  subst eq
  subst vq
  try dsimp only at hM
  replace H := H.bk ah
  clear ah
  refine zM (.tuple #[aC, aD, I aa]) rfl ?_
  refine zX [aC, aD, I aa] aC rfl rfl ?_
  refine zX [aC, aD, I aa] aD rfl rfl ?_
  refine zX [aC, aD, I aa] (I aa) rfl rfl ?_
  refine zA aC rfl ?_
  refine zA aD rfl ?_
  refine zA (I aa) rfl ?_
  refine s_nil ?_
  replace H := H.pk [0, 1]
  refine W.seq ?_
  refine W.region rfl ?_
  obtain ⟨hG, er, hM⟩ := M.e_bind hM
  refine s_call cf42 [I 1] rfl (zai 1 er _ (H.gt 2)) ?_
  rintro vq hJ ⟨bv, bw, bx, bz, aU, aV, bA, bB, bC, bD, bE, bF, eu, ew, ey, hvq, ah, ez⟩
  subst ey
  subst vq
  try dsimp only at hM
  replace H := H.bk ah
  clear ah
  refine t_bs (α := Int) T22 [I 2] [(2 : Int)] H rfl (.cons rfl (Flat.rep_enc _ (2 : Int)) <| .nil) rfl rfl rfl ?_
  intro eA hN H
  refine t_bs (α := Int) T22 [I 250] [(250 : Int)] H rfl (.cons rfl (Flat.rep_enc _ (250 : Int)) <| .nil) rfl rfl rfl ?_
  intro eB hO H
  obtain ⟨hP, eC, hM⟩ := M.e_bind hM
  refine s_call cf16 [.agg #[bB, bC, bD, bE, I aU, I aV, bF], eA, eB] rfl (zaG bv bw bx bz aU aV bA ([(2 : Int)]) ([(250 : Int)]) (rdo 2) (H.os 2) (rdo 3) (H.os 3) (rdo 4) (H.os 4) (rdo 5) (H.os 5) (Reads.sup (rdo 6) (Reads.of (k := 7) rfl roLe)) (rowSl rfl (H.get (k := 6) rfl) (roLe _ (H.get (k := 7) rfl)) ez) (rdo 1) (H.os 1) (rdo 0) (H.os 0) eC _ (H.gt 10)) ?_
  rintro vq hZ ⟨aq, au, ab, aG, aH, eD, hvq, ah⟩
  subst eD
  subst vq
  try dsimp only at hM
  replace H := H.bk ah
  clear ah
  refine zM (.tuple #[aG, aH, I ab]) rfl ?_
  refine zX [aG, aH, I ab] aG rfl rfl ?_
  refine zX [aG, aH, I ab] aH rfl rfl ?_
  refine zX [aG, aH, I ab] (I ab) rfl rfl ?_
  refine zA aG rfl ?_
  refine zA aH rfl ?_
  refine zA (I ab) rfl ?_
  refine s_nil ?_
  replace H := H.pk [0, 1, 10, 11]
  refine W.seq ?_
  refine W.region rfl ?_
  obtain ⟨h9, eE, hM⟩ := M.e_bind hM
  refine s_call cf42 [I 1] rfl (zai 1 eE _ (H.gt 4)) ?_
  rintro vq ia ⟨bG, bH, bI, bJ, aW, aX, bK, bL, bM, bN, bO, bP, eF, eG, eH, hvq, ah, eI⟩
  subst eH
  subst vq
  try dsimp only at hM
  replace H := H.bk ah
  clear ah
  refine t_bs (α := Int) T22 [I 2] [(2 : Int)] H rfl (.cons rfl (Flat.rep_enc _ (2 : Int)) <| .nil) rfl rfl rfl ?_
  intro eJ ib H
  refine t_bs (α := Int) T22 [I 240] [(240 : Int)] H rfl (.cons rfl (Flat.rep_enc _ (240 : Int)) <| .nil) rfl rfl rfl ?_
  intro eK ic H
  obtain ⟨ie, eL, hM⟩ := M.e_bind hM
  refine s_call cf16 [.agg #[bL, bM, bN, bO, I aW, I aX, bP], eJ, eK] rfl (zaG bG bH bI bJ aW aX bK ([(2 : Int)]) ([(240 : Int)]) (rdo 2) (H.os 2) (rdo 3) (H.os 3) (rdo 4) (H.os 4) (rdo 5) (H.os 5) (Reads.sup (rdo 6) (Reads.of (k := 7) rfl roLe)) (rowSl rfl (H.get (k := 6) rfl) (roLe _ (H.get (k := 7) rfl)) eI) (rdo 1) (H.os 1) (rdo 0) (H.os 0) eL _ (H.gt 12)) ?_
  rintro vq ig ⟨eM, bQ, ac, aI, aE, eN, hvq, ah⟩
  subst eN
  subst vq
  try dsimp only at hM
  replace H := H.bk ah
  clear ah
  refine zM (.tuple #[aI, aE, I ac]) rfl ?_
  refine zX [aI, aE, I ac] aI rfl rfl ?_
  refine zX [aI, aE, I ac] aE rfl rfl ?_
  refine zX [aI, aE, I ac] (I ac) rfl rfl ?_
  refine zA aI rfl ?_
  refine zA aE rfl ?_
  refine zA (I ac) rfl ?_
  refine s_nil ?_
  replace H := H.pk [1, 10, 11, 12, 13]
  refine W.seq ?_
  refine W.region rfl ?_
  obtain ⟨ii, eO, hM⟩ := M.e_bind hM
  refine s_call cf42 [I 1] rfl (zai 1 eO _ (H.gt 5)) ?_
  rintro vq ij ⟨bR, bS, bT, bU, aY, aZ, bV, bW, bX, bY, bZ, b3, eP, eQ, eR, hvq, ah, eS⟩
  subst eR
  subst vq
  try dsimp only at hM
  replace H := H.bk ah
  clear ah
  refine t_bs (α := Int) T22 [I 2] [(2 : Int)] H rfl (.cons rfl (Flat.rep_enc _ (2 : Int)) <| .nil) rfl rfl rfl ?_
  intro eT ik H
  refine t_bs (α := Int) T22 [I 251] [(251 : Int)] H rfl (.cons rfl (Flat.rep_enc _ (251 : Int)) <| .nil) rfl rfl rfl ?_
  intro eU il H
  obtain ⟨im, eV, hM⟩ := M.e_bind hM
  refine s_call cf16 [.agg #[bW, bX, bY, bZ, I aY, I aZ, b3], eT, eU] rfl (zaG bR bS bT bU aY aZ bV ([(2 : Int)]) ([(251 : Int)]) (rdo 2) (H.os 2) (rdo 3) (H.os 3) (rdo 4) (H.os 4) (rdo 5) (H.os 5) (Reads.sup (rdo 6) (Reads.of (k := 7) rfl roLe)) (rowSl rfl (H.get (k := 6) rfl) (roLe _ (H.get (k := 7) rfl)) eS) (rdo 1) (H.os 1) (rdo 0) (H.os 0) eV _ (H.gt 13)) ?_
  rintro vq io ⟨b4, eW, ae, aF, aJ, eX, hvq, ah⟩
  subst eX
  subst vq
  try dsimp only at hM
  replace H := H.bk ah
  clear ah
  refine zM (.tuple #[aF, aJ, I ae]) rfl ?_
  refine zX [aF, aJ, I ae] aF rfl rfl ?_
  refine zX [aF, aJ, I ae] aJ rfl rfl ?_
  refine zX [aF, aJ, I ae] (I ae) rfl rfl ?_
  refine zA aF rfl ?_
  refine zA aJ rfl ?_
  refine zA (I ae) rfl ?_
  refine s_nil ?_
  replace H := H.pk [0, 10, 11, 12, 13, 14]
  refine W.seq ?_
  refine W.region rfl ?_
  refine zM (I aa) rfl ?_
  refine zC aa 0 (aa == 0) rfl rfl rfl ?_
  refine zM (B (aa == 0)) rfl ?_
  refine g_val (aa == 0) (gy_t rfl) (fun hg => x_mv (v := I ab) rfl) ?_
  refine g_val (aa == 0) (gy_t rfl) (fun hg => x_cmp (kd := .i64) (a := ab) (b := 0) (r := ab == 0) (gd_of (c := aa == 0) hg (I ab)) rfl rfl) ?_
  refine s_val (x_pand (b := aa == 0) (r := ab == 0) rfl (fun hb => gd_of (c := aa == 0) (by first | exact hb | (rw [hb]; rfl) | simp_all) (B (ab == 0))) rfl) ?_
  refine zM (B ((aa == 0) && (ab == 0))) rfl ?_
  refine g_val ((aa == 0) && (ab == 0)) (gy_t rfl) (fun hg => x_mv (v := I ac) rfl) ?_
  refine g_val ((aa == 0) && (ab == 0)) (gy_t rfl) (fun hg => x_cmp (kd := .i64) (a := ac) (b := 0) (r := ac == 0) (gd_of (c := ((aa == 0) && (ab == 0))) hg (I ac)) rfl rfl) ?_
  refine s_val (x_pand (b := ((aa == 0) && (ab == 0))) (r := ac == 0) rfl (fun hb => gd_of (c := ((aa == 0) && (ab == 0))) (by first | exact hb | (rw [hb]; rfl) | simp_all) (B (ac == 0))) rfl) ?_
  refine zM (B (((aa == 0) && (ab == 0)) && (ac == 0))) rfl ?_
  refine g_val (((aa == 0) && (ab == 0)) && (ac == 0)) (gy_t rfl) (fun hg => x_mv (v := I ae) rfl) ?_
  refine g_val (((aa == 0) && (ab == 0)) && (ac == 0)) (gy_t rfl) (fun hg => x_cmp (kd := .i64) (a := ae) (b := 0) (r := ae == 0) (gd_of (c := (((aa == 0) && (ab == 0)) && (ac == 0))) hg (I ae)) rfl rfl) ?_
  refine s_val (x_pand (b := (((aa == 0) && (ab == 0)) && (ac == 0))) (r := ae == 0) rfl (fun hb => gd_of (c := (((aa == 0) && (ab == 0)) && (ac == 0))) (by first | exact hb | (rw [hb]; rfl) | simp_all) (B (ae == 0))) rfl) ?_
  refine zM (B ((((aa == 0) && (ab == 0)) && (ac == 0)) && (ae == 0))) rfl ?_
  refine g_val ((((aa == 0) && (ab == 0)) && (ac == 0)) && (ae == 0)) (gy_t rfl) (fun hg => x_mv (v := aC) rfl) ?_
  refine t_gbs (α := Int) T22 ((((aa == 0) && (ab == 0)) && (ac == 0)) && (ae == 0)) (gy_t rfl) [I 250] [(250 : Int)] H (fun _ => rfl) (.cons rfl (Flat.rep_enc _ (250 : Int)) <| .nil) rfl rfl rfl ?_
  intro cn eY ip H eZ
  obtain ⟨r9, e5, hM⟩ := M.e_bind hM
  refine t_gcall ((((aa == 0) && (ab == 0)) && (ac == 0)) && (ae == 0)) (gy_t rfl) cf15 (B r9) (fun _ => [aC, cn]) (fun hg => lst2 (gd_of (c := ((((aa == 0) && (ab == 0)) && (ac == 0)) && (ae == 0))) hg (aC)) (gd_of (c := ((((aa == 0) && (ab == 0)) && (ac == 0)) && (ae == 0))) hg (cn))) H (fun hg => (zac bt ([(250 : Int)]) (rdo 5) (H.os 5) (Reads.of (k := 0) rfl roLe) (eZ hg) (M.e_opt e5 hg) _ (H.give (A := []) rfl)).mono fun v_ w_ ⟨y_, ax, aB, H_⟩ => by subst ax; exact ⟨aB, H.via H_⟩) ?_
  intro iq H
  refine s_val (x_pand (b := ((((aa == 0) && (ab == 0)) && (ac == 0)) && (ae == 0))) (r := r9) rfl (fun hb => gd_of (c := ((((aa == 0) && (ab == 0)) && (ac == 0)) && (ae == 0))) (by first | exact hb | (rw [hb]; rfl) | simp_all) (B r9)) rfl) ?_
  refine zM (B (((((aa == 0) && (ab == 0)) && (ac == 0)) && (ae == 0)) && r9)) rfl ?_
  refine g_val (((((aa == 0) && (ab == 0)) && (ac == 0)) && (ae == 0)) && r9) (gy_t rfl) (fun hg => x_mv (v := aD) rfl) ?_
  refine t_gbs (α := Int) T22 (((((aa == 0) && (ab == 0)) && (ac == 0)) && (ae == 0)) && r9) (gy_t rfl) [I 0] [(0 : Int)] H (fun _ => rfl) (.cons rfl (Flat.rep_enc _ (0 : Int)) <| .nil) rfl rfl rfl ?_
  intro co e6 ir H e7
  obtain ⟨am, e8, hM⟩ := M.e_bind hM
  refine t_gcall (((((aa == 0) && (ab == 0)) && (ac == 0)) && (ae == 0)) && r9) (gy_t rfl) cf15 (B am) (fun _ => [aD, co]) (fun hg => lst2 (gd_of (c := (((((aa == 0) && (ab == 0)) && (ac == 0)) && (ae == 0)) && r9)) hg (aD)) (gd_of (c := (((((aa == 0) && (ab == 0)) && (ac == 0)) && (ae == 0)) && r9)) hg (co))) H (fun hg => (zac bu ([(0 : Int)]) (rdo 7) (H.os 7) (Reads.of (k := 0) rfl roLe) (e7 hg) (M.e_opt e8 hg) _ (H.give (A := []) rfl)).mono fun v_ w_ ⟨y_, ax, aB, H_⟩ => by subst ax; exact ⟨aB, H.via H_⟩) ?_
  intro iu H
  refine s_val (x_pand (b := (((((aa == 0) && (ab == 0)) && (ac == 0)) && (ae == 0)) && r9)) (r := am) rfl (fun hb => gd_of (c := (((((aa == 0) && (ab == 0)) && (ac == 0)) && (ae == 0)) && r9)) (by first | exact hb | (rw [hb]; rfl) | simp_all) (B am)) rfl) ?_
  refine zM (B ((((((aa == 0) && (ab == 0)) && (ac == 0)) && (ae == 0)) && r9) && am)) rfl ?_
  refine g_val ((((((aa == 0) && (ab == 0)) && (ac == 0)) && (ae == 0)) && r9) && am) (gy_t rfl) (fun hg => x_mv (v := aG) rfl) ?_
  refine g_val ((((((aa == 0) && (ab == 0)) && (ac == 0)) && (ae == 0)) && r9) && am) (gy_t rfl) (fun hg => x_lenS T22.und (gd_of (c := ((((((aa == 0) && (ab == 0)) && (ac == 0)) && (ae == 0)) && r9) && am)) hg (aG)) (H.os 4)) ?_
  refine g_val ((((((aa == 0) && (ab == 0)) && (ac == 0)) && (ae == 0)) && r9) && am) (gy_t rfl) (fun hg => x_mv (v := aH) rfl) ?_
  refine g_val ((((((aa == 0) && (ab == 0)) && (ac == 0)) && (ae == 0)) && r9) && am) (gy_t rfl) (fun hg => x_lenS T22.und (gd_of (c := ((((((aa == 0) && (ab == 0)) && (ac == 0)) && (ae == 0)) && r9) && am)) hg (aH)) (H.os 5)) ?_
  obtain ⟨a8, hM⟩ := M.e_grd hM
  replace a8 := M.imp_of a8
  simp only [Bool.and_eq_true, decide_eq_true_eq] at a8
  refine g_val ((((((aa == 0) && (ab == 0)) && (ac == 0)) && (ae == 0)) && r9) && am) (gy_t rfl) (fun hg => x_ari (a := (aq.length : Int)) (b := (au.length : Int)) (r := (aq.length : Int) + (au.length : Int)) (gd_of (c := ((((((aa == 0) && (ab == 0)) && (ac == 0)) && (ae == 0)) && r9) && am)) hg (I (aq.length : Int))) (gd_of (c := ((((((aa == 0) && (ab == 0)) && (ac == 0)) && (ae == 0)) && r9) && am)) hg (I (au.length : Int))) rfl (by have aP := a8.resolve_left (by rw [hg]; decide); first | exact aP | exact aP.1 | exact aP.2 | omega | (have aQ := hg; simp at aQ; omega))) ?_
  refine g_val ((((((aa == 0) && (ab == 0)) && (ac == 0)) && (ae == 0)) && r9) && am) (gy_t rfl) (fun hg => x_cmp (kd := .i64) (a := (aq.length : Int) + (au.length : Int)) (b := 0) (r := ((aq.length : Int) + (au.length : Int)) == 0) (gd_of (c := ((((((aa == 0) && (ab == 0)) && (ac == 0)) && (ae == 0)) && r9) && am)) hg (I ((aq.length : Int) + (au.length : Int)))) rfl rfl) ?_
  refine s_val (x_pand (b := ((((((aa == 0) && (ab == 0)) && (ac == 0)) && (ae == 0)) && r9) && am)) (r := ((aq.length : Int) + (au.length : Int)) == 0) rfl (fun hb => gd_of (c := ((((((aa == 0) && (ab == 0)) && (ac == 0)) && (ae == 0)) && r9) && am)) (by first | exact hb | (rw [hb]; rfl) | simp_all) (B (((aq.length : Int) + (au.length : Int)) == 0))) rfl) ?_
  refine zM (B (((((((aa == 0) && (ab == 0)) && (ac == 0)) && (ae == 0)) && r9) && am) && (((aq.length : Int) + (au.length : Int)) == 0))) rfl ?_
  refine g_val (((((((aa == 0) && (ab == 0)) && (ac == 0)) && (ae == 0)) && r9) && am) && (((aq.length : Int) + (au.length : Int)) == 0)) (gy_t rfl) (fun hg => x_mv (v := aE) rfl) ?_
  refine t_gbs (α := Int) T22 (((((((aa == 0) && (ab == 0)) && (ac == 0)) && (ae == 0)) && r9) && am) && (((aq.length : Int) + (au.length : Int)) == 0)) (gy_t rfl) [I 1] [(1 : Int)] H (fun _ => rfl) (.cons rfl (Flat.rep_enc _ (1 : Int)) <| .nil) rfl rfl rfl ?_
  intro cp e9 iw H fg
  obtain ⟨ay, fh, hM⟩ := M.e_bind hM
  refine t_gcall (((((((aa == 0) && (ab == 0)) && (ac == 0)) && (ae == 0)) && r9) && am) && (((aq.length : Int) + (au.length : Int)) == 0)) (gy_t rfl) cf15 (B ay) (fun _ => [aE, cp]) (fun hg => lst2 (gd_of (c := (((((((aa == 0) && (ab == 0)) && (ac == 0)) && (ae == 0)) && r9) && am) && (((aq.length : Int) + (au.length : Int)) == 0))) hg (aE)) (gd_of (c := (((((((aa == 0) && (ab == 0)) && (ac == 0)) && (ae == 0)) && r9) && am) && (((aq.length : Int) + (au.length : Int)) == 0))) hg (cp))) H (fun hg => (zac bQ ([(1 : Int)]) (rdo 4) (H.os 4) (Reads.of (k := 0) rfl roLe) (fg hg) (M.e_opt fh hg) _ (H.give (A := []) rfl)).mono fun v_ w_ ⟨y_, ax, aB, H_⟩ => by subst ax; exact ⟨aB, H.via H_⟩) ?_
  intro iy H
  refine s_val (x_pand (b := (((((((aa == 0) && (ab == 0)) && (ac == 0)) && (ae == 0)) && r9) && am) && (((aq.length : Int) + (au.length : Int)) == 0))) (r := ay) rfl (fun hb => gd_of (c := (((((((aa == 0) && (ab == 0)) && (ac == 0)) && (ae == 0)) && r9) && am) && (((aq.length : Int) + (au.length : Int)) == 0))) (by first | exact hb | (rw [hb]; rfl) | simp_all) (B ay)) rfl) ?_
  refine zM (B ((((((((aa == 0) && (ab == 0)) && (ac == 0)) && (ae == 0)) && r9) && am) && (((aq.length : Int) + (au.length : Int)) == 0)) && ay)) rfl ?_
  refine g_val ((((((((aa == 0) && (ab == 0)) && (ac == 0)) && (ae == 0)) && r9) && am) && (((aq.length : Int) + (au.length : Int)) == 0)) && ay) (gy_t rfl) (fun hg => x_mv (v := aF) rfl) ?_
  refine t_gbs (α := Int) T22 ((((((((aa == 0) && (ab == 0)) && (ac == 0)) && (ae == 0)) && r9) && am) && (((aq.length : Int) + (au.length : Int)) == 0)) && ay) (gy_t rfl) [I 0] [(0 : Int)] H (fun _ => rfl) (.cons rfl (Flat.rep_enc _ (0 : Int)) <| .nil) rfl rfl rfl ?_
  intro cq fi iz H fj
  obtain ⟨aK, fk, hM⟩ := M.e_bind hM
  refine t_gcall ((((((((aa == 0) && (ab == 0)) && (ac == 0)) && (ae == 0)) && r9) && am) && (((aq.length : Int) + (au.length : Int)) == 0)) && ay) (gy_t rfl) cf15 (B aK) (fun _ => [aF, cq]) (fun hg => lst2 (gd_of (c := ((((((((aa == 0) && (ab == 0)) && (ac == 0)) && (ae == 0)) && r9) && am) && (((aq.length : Int) + (au.length : Int)) == 0)) && ay)) hg (aF)) (gd_of (c := ((((((((aa == 0) && (ab == 0)) && (ac == 0)) && (ae == 0)) && r9) && am) && (((aq.length : Int) + (au.length : Int)) == 0)) && ay)) hg (cq))) H (fun hg => (zac b4 ([(0 : Int)]) (rdo 4) (H.os 4) (Reads.of (k := 0) rfl roLe) (fj hg) (M.e_opt fk hg) _ (H.give (A := []) rfl)).mono fun v_ w_ ⟨y_, ax, aB, H_⟩ => by subst ax; exact ⟨aB, H.via H_⟩) ?_
  intro iA H
  refine s_val (x_pand (b := ((((((((aa == 0) && (ab == 0)) && (ac == 0)) && (ae == 0)) && r9) && am) && (((aq.length : Int) + (au.length : Int)) == 0)) && ay)) (r := aK) rfl (fun hb => gd_of (c := ((((((((aa == 0) && (ab == 0)) && (ac == 0)) && (ae == 0)) && r9) && am) && (((aq.length : Int) + (au.length : Int)) == 0)) && ay)) (by first | exact hb | (rw [hb]; rfl) | simp_all) (B aK)) rfl) ?_
  refine zA (B (((((((((aa == 0) && (ab == 0)) && (ac == 0)) && (ae == 0)) && r9) && am) && (((aq.length : Int) + (au.length : Int)) == 0)) && ay) && aK)) rfl ?_
  refine s_nil ?_
  replace H := H.pk []
  refine W.ret ?_
  have ax := M.e_pure hM
  exact ⟨_, resE_tmp rfl, ⟨(((((((((aa == 0) && (ab == 0)) && (ac == 0)) && (ae == 0)) && r9) && am) && (((aq.length : Int) + (au.length : Int)) == 0)) && ay) && aK), ax, rfl, H⟩⟩
 replace hM := M.e_f hM bc
 refine s_nil ⟨(H.pk [2, 3, 4, 5, 6]), ?_⟩
 refine d_qg (!((((((((((ag != 0) || (ai != 0)) || (aj != 6)) || (ak != 0)) || (ao != 0)) || (ap != 0)) || (!r7)) || (decide (0 < (av.length : Int)))) || ((aw.length : Int) != 2)) || (!r8))) rfl (gy_f rfl) (fun hg => (fun w' H => x_neS (eqT26 (⟨(az : Int), (aA : Int)⟩ : Span) (⟨(0 : Int), (0 : Int)⟩ : Span) _) gdT26 (gd_of (c := !((((((((((ag != 0) || (ai != 0)) || (aj != 6)) || (ak != 0)) || (ao != 0)) || (ap != 0)) || (!r7)) || (decide (0 < (av.length : Int)))) || ((aw.length : Int) != 2)) || (!r8))) hg (.agg #[I az, I aA])) (gd_of (c := !((((((((((ag != 0) || (ai != 0)) || (aj != 6)) || (ak != 0)) || (ao != 0)) || (ap != 0)) || (!r7)) || (decide (0 < (av.length : Int)))) || ((aw.length : Int) != 2)) || (!r8))) hg (.agg #[I 0, I 0])))) ?_
 refine d_q rfl (fun w' H => x_por (b := ((((((((((ag != 0) || (ai != 0)) || (aj != 6)) || (ak != 0)) || (ao != 0)) || (ap != 0)) || (!r7)) || (decide (0 < (av.length : Int)))) || ((aw.length : Int) != 2)) || (!r8))) (r := !(decide ((⟨(az : Int), (aA : Int)⟩ : Span) = (⟨(0 : Int), (0 : Int)⟩ : Span)))) rfl rfl (fun hb => gd_of (c := !((((((((((ag != 0) || (ai != 0)) || (aj != 6)) || (ak != 0)) || (ao != 0)) || (ap != 0)) || (!r7)) || (decide (0 < (av.length : Int)))) || ((aw.length : Int) != 2)) || (!r8))) (by first | exact hb | (rw [hb]; rfl) | simp_all) (B (!(decide ((⟨(az : Int), (aA : Int)⟩ : Span) = (⟨(0 : Int), (0 : Int)⟩ : Span))))))) ?_
 refine d_nil ?_
 replace H := H.pk []
 refine W.cond (((((((((((ag != 0) || (ai != 0)) || (aj != 6)) || (ak != 0)) || (ao != 0)) || (ap != 0)) || (!r7)) || (decide (0 < (av.length : Int)))) || ((aw.length : Int) != 2)) || (!r8)) || (!(decide ((⟨(az : Int), (aA : Int)⟩ : Span) = (⟨(0 : Int), (0 : Int)⟩ : Span))))) rfl (fun b5 => ?_) (fun b5 => ?_)
 ·replace hM := M.e_t hM b5
  refine W.seq ?_
  refine W.region rfl ?_
  refine zA (B false) rfl ?_
  refine s_nil ?_
  refine W.ret ?_
  have ax := M.e_pure hM
  exact ⟨_, resE_tmp rfl, ⟨false, ax, rfl, H⟩⟩
 replace hM := M.e_f hM b5
 refine W.skip ?_
 refine W.seq ?_
 refine W.region rfl ?_
 obtain ⟨iB, fm, hM⟩ := M.e_bind hM
 refine s_call cf42 [I 1] rfl (zai 1 fm _ (H.gt 0)) ?_
 rintro vq iC ⟨bg, bh, bi, bj, aS, aT, bm, bn, bo, bp, bq, br, ej, el, fo, hvq, ah, fp⟩
 subst fo
 subst vq
 try dsimp only at hM
 replace H := H.bk ah
 clear ah
 refine t_bs (α := Int) T22 [I 2] [(2 : Int)] H rfl (.cons rfl (Flat.rep_enc _ (2 : Int)) <| .nil) rfl rfl rfl ?_
 intro fq iD H
 obtain ⟨iE, fu, hM⟩ := M.e_bind hM
 refine s_call cf13 [.agg #[bn, bo, bp, bq, I aS, I aT, br], fq] rfl (zcD bg bh bi bj aS aT bm ([(2 : Int)]) (rdo 1) (H.os 1) (rdo 2) (H.os 2) (rdo 3) (H.os 3) (rdo 4) (H.os 4) (Reads.sup (rdo 5) (Reads.of (k := 6) rfl roLe)) (rowSl rfl (H.get (k := 5) rfl) (roLe _ (H.get (k := 6) rfl)) fp) (rdo 0) (H.os 0) fu _ (H.gt 7)) ?_
 rintro vq iF ⟨bt, bu, aa, aC, aD, fv, hvq, ah⟩
 subst fv
 subst vq
 try dsimp only at hM
 replace H := H.bk ah
 clear ah
 refine zM (.tuple #[aC, aD, I aa]) rfl ?_
 refine zX [aC, aD, I aa] aC rfl rfl ?_
 refine zX [aC, aD, I aa] aD rfl rfl ?_
 refine zX [aC, aD, I aa] (I aa) rfl rfl ?_
 refine zA aC rfl ?_
 refine zA aD rfl ?_
 refine zA (I aa) rfl ?_
 refine s_nil ?_
 replace H := H.pk [0, 1]
 refine W.seq ?_
 refine W.region rfl ?_
 obtain ⟨iG, fw, hM⟩ := M.e_bind hM
 refine s_call cf42 [I 1] rfl (zai 1 fw _ (H.gt 2)) ?_
 rintro vq iH ⟨bv, bw, bx, bz, aU, aV, bA, bB, bC, bD, bE, bF, eu, ew, fx, hvq, ah, fy⟩
 subst fx
 subst vq
 try dsimp only at hM
 replace H := H.bk ah
 clear ah
 refine t_bs (α := Int) T22 [I 2] [(2 : Int)] H rfl (.cons rfl (Flat.rep_enc _ (2 : Int)) <| .nil) rfl rfl rfl ?_
 intro fA iI H
 refine t_bs (α := Int) T22 [I 250] [(250 : Int)] H rfl (.cons rfl (Flat.rep_enc _ (250 : Int)) <| .nil) rfl rfl rfl ?_
 intro fB iJ H
 obtain ⟨iK, fC, hM⟩ := M.e_bind hM
 refine s_call cf16 [.agg #[bB, bC, bD, bE, I aU, I aV, bF], fA, fB] rfl (zaG bv bw bx bz aU aV bA ([(2 : Int)]) ([(250 : Int)]) (rdo 2) (H.os 2) (rdo 3) (H.os 3) (rdo 4) (H.os 4) (rdo 5) (H.os 5) (Reads.sup (rdo 6) (Reads.of (k := 7) rfl roLe)) (rowSl rfl (H.get (k := 6) rfl) (roLe _ (H.get (k := 7) rfl)) fy) (rdo 1) (H.os 1) (rdo 0) (H.os 0) fC _ (H.gt 10)) ?_
 rintro vq iL ⟨aq, au, ab, aG, aH, fD, hvq, ah⟩
 subst fD
 subst vq
 try dsimp only at hM
 replace H := H.bk ah
 clear ah
 refine zM (.tuple #[aG, aH, I ab]) rfl ?_
 refine zX [aG, aH, I ab] aG rfl rfl ?_
 refine zX [aG, aH, I ab] aH rfl rfl ?_
 refine zX [aG, aH, I ab] (I ab) rfl rfl ?_
 refine zA aG rfl ?_
 refine zA aH rfl ?_
 refine zA (I ab) rfl ?_
 refine s_nil ?_
 replace H := H.pk [0, 1, 10, 11]
 refine W.seq ?_
 refine W.region rfl ?_
 obtain ⟨iM, fE, hM⟩ := M.e_bind hM
 refine s_call cf42 [I 1] rfl (zai 1 fE _ (H.gt 4)) ?_
 rintro vq iN ⟨bG, bH, bI, bJ, aW, aX, bK, bL, bM, bN, bO, bP, eF, eG, fF, hvq, ah, fG⟩
 subst fF
 subst vq
 try dsimp only at hM
 replace H := H.bk ah
 clear ah
 refine t_bs (α := Int) T22 [I 2] [(2 : Int)] H rfl (.cons rfl (Flat.rep_enc _ (2 : Int)) <| .nil) rfl rfl rfl ?_
 intro fH iO H
 refine t_bs (α := Int) T22 [I 240] [(240 : Int)] H rfl (.cons rfl (Flat.rep_enc _ (240 : Int)) <| .nil) rfl rfl rfl ?_
 intro fI iP H
 obtain ⟨iQ, fJ, hM⟩ := M.e_bind hM
 refine s_call cf16 [.agg #[bL, bM, bN, bO, I aW, I aX, bP], fH, fI] rfl (zaG bG bH bI bJ aW aX bK ([(2 : Int)]) ([(240 : Int)]) (rdo 2) (H.os 2) (rdo 3) (H.os 3) (rdo 4) (H.os 4) (rdo 5) (H.os 5) (Reads.sup (rdo 6) (Reads.of (k := 7) rfl roLe)) (rowSl rfl (H.get (k := 6) rfl) (roLe _ (H.get (k := 7) rfl)) fG) (rdo 1) (H.os 1) (rdo 0) (H.os 0) fJ _ (H.gt 12)) ?_
 rintro vq iR ⟨eM, bQ, ac, aI, aE, fK, hvq, ah⟩
 subst fK
 subst vq
 try dsimp only at hM
 replace H := H.bk ah
 clear ah
 refine zM (.tuple #[aI, aE, I ac]) rfl ?_
 refine zX [aI, aE, I ac] aI rfl rfl ?_
 refine zX [aI, aE, I ac] aE rfl rfl ?_
 refine zX [aI, aE, I ac] (I ac) rfl rfl ?_
 refine zA aI rfl ?_
 refine zA aE rfl ?_
 refine zA (I ac) rfl ?_
 refine s_nil ?_
 replace H := H.pk [1, 10, 11, 12, 13]
 refine W.seq ?_
 refine W.region rfl ?_
 obtain ⟨iS, fL, hM⟩ := M.e_bind hM
 refine s_call cf42 [I 1] rfl (zai 1 fL _ (H.gt 5)) ?_
 rintro vq iT ⟨bR, bS, bT, bU, aY, aZ, bV, bW, bX, bY, bZ, b3, eP, eQ, fM, hvq, ah, fN⟩
 subst fM
 subst vq
 try dsimp only at hM
 replace H := H.bk ah
 clear ah
 refine t_bs (α := Int) T22 [I 2] [(2 : Int)] H rfl (.cons rfl (Flat.rep_enc _ (2 : Int)) <| .nil) rfl rfl rfl ?_
 intro fO iU H
 refine t_bs (α := Int) T22 [I 251] [(251 : Int)] H rfl (.cons rfl (Flat.rep_enc _ (251 : Int)) <| .nil) rfl rfl rfl ?_
 intro fP iV H
 obtain ⟨iW, fQ, hM⟩ := M.e_bind hM
 refine s_call cf16 [.agg #[bW, bX, bY, bZ, I aY, I aZ, b3], fO, fP] rfl (zaG bR bS bT bU aY aZ bV ([(2 : Int)]) ([(251 : Int)]) (rdo 2) (H.os 2) (rdo 3) (H.os 3) (rdo 4) (H.os 4) (rdo 5) (H.os 5) (Reads.sup (rdo 6) (Reads.of (k := 7) rfl roLe)) (rowSl rfl (H.get (k := 6) rfl) (roLe _ (H.get (k := 7) rfl)) fN) (rdo 1) (H.os 1) (rdo 0) (H.os 0) fQ _ (H.gt 13)) ?_
 rintro vq iX ⟨b4, eW, ae, aF, aJ, fR, hvq, ah⟩
 subst fR
 subst vq
 try dsimp only at hM
 replace H := H.bk ah
 clear ah
 refine zM (.tuple #[aF, aJ, I ae]) rfl ?_
 refine zX [aF, aJ, I ae] aF rfl rfl ?_
 refine zX [aF, aJ, I ae] aJ rfl rfl ?_
 refine zX [aF, aJ, I ae] (I ae) rfl rfl ?_
 refine zA aF rfl ?_
 refine zA aJ rfl ?_
 refine zA (I ae) rfl ?_
 refine s_nil ?_
 replace H := H.pk [0, 10, 11, 12, 13, 14]
 refine W.seq ?_
 refine W.region rfl ?_
 refine zM (I aa) rfl ?_
 refine zC aa 0 (aa == 0) rfl rfl rfl ?_
 refine zM (B (aa == 0)) rfl ?_
 refine g_val (aa == 0) (gy_t rfl) (fun hg => x_mv (v := I ab) rfl) ?_
 refine g_val (aa == 0) (gy_t rfl) (fun hg => x_cmp (kd := .i64) (a := ab) (b := 0) (r := ab == 0) (gd_of (c := aa == 0) hg (I ab)) rfl rfl) ?_
 refine s_val (x_pand (b := aa == 0) (r := ab == 0) rfl (fun hb => gd_of (c := aa == 0) (by first | exact hb | (rw [hb]; rfl) | simp_all) (B (ab == 0))) rfl) ?_
 refine zM (B ((aa == 0) && (ab == 0))) rfl ?_
 refine g_val ((aa == 0) && (ab == 0)) (gy_t rfl) (fun hg => x_mv (v := I ac) rfl) ?_
 refine g_val ((aa == 0) && (ab == 0)) (gy_t rfl) (fun hg => x_cmp (kd := .i64) (a := ac) (b := 0) (r := ac == 0) (gd_of (c := ((aa == 0) && (ab == 0))) hg (I ac)) rfl rfl) ?_
 refine s_val (x_pand (b := ((aa == 0) && (ab == 0))) (r := ac == 0) rfl (fun hb => gd_of (c := ((aa == 0) && (ab == 0))) (by first | exact hb | (rw [hb]; rfl) | simp_all) (B (ac == 0))) rfl) ?_
 refine zM (B (((aa == 0) && (ab == 0)) && (ac == 0))) rfl ?_
 refine g_val (((aa == 0) && (ab == 0)) && (ac == 0)) (gy_t rfl) (fun hg => x_mv (v := I ae) rfl) ?_
 refine g_val (((aa == 0) && (ab == 0)) && (ac == 0)) (gy_t rfl) (fun hg => x_cmp (kd := .i64) (a := ae) (b := 0) (r := ae == 0) (gd_of (c := (((aa == 0) && (ab == 0)) && (ac == 0))) hg (I ae)) rfl rfl) ?_
 refine s_val (x_pand (b := (((aa == 0) && (ab == 0)) && (ac == 0))) (r := ae == 0) rfl (fun hb => gd_of (c := (((aa == 0) && (ab == 0)) && (ac == 0))) (by first | exact hb | (rw [hb]; rfl) | simp_all) (B (ae == 0))) rfl) ?_
 refine zM (B ((((aa == 0) && (ab == 0)) && (ac == 0)) && (ae == 0))) rfl ?_
 refine g_val ((((aa == 0) && (ab == 0)) && (ac == 0)) && (ae == 0)) (gy_t rfl) (fun hg => x_mv (v := aC) rfl) ?_
 refine t_gbs (α := Int) T22 ((((aa == 0) && (ab == 0)) && (ac == 0)) && (ae == 0)) (gy_t rfl) [I 250] [(250 : Int)] H (fun _ => rfl) (.cons rfl (Flat.rep_enc _ (250 : Int)) <| .nil) rfl rfl rfl ?_
 intro cr eY iY H fS
 obtain ⟨r9, fT, hM⟩ := M.e_bind hM
 refine t_gcall ((((aa == 0) && (ab == 0)) && (ac == 0)) && (ae == 0)) (gy_t rfl) cf15 (B r9) (fun _ => [aC, cr]) (fun hg => lst2 (gd_of (c := ((((aa == 0) && (ab == 0)) && (ac == 0)) && (ae == 0))) hg (aC)) (gd_of (c := ((((aa == 0) && (ab == 0)) && (ac == 0)) && (ae == 0))) hg (cr))) H (fun hg => (zac bt ([(250 : Int)]) (rdo 5) (H.os 5) (Reads.of (k := 0) rfl roLe) (fS hg) (M.e_opt fT hg) _ (H.give (A := []) rfl)).mono fun v_ w_ ⟨y_, ax, aB, H_⟩ => by subst ax; exact ⟨aB, H.via H_⟩) ?_
 intro iZ H
 refine s_val (x_pand (b := ((((aa == 0) && (ab == 0)) && (ac == 0)) && (ae == 0))) (r := r9) rfl (fun hb => gd_of (c := ((((aa == 0) && (ab == 0)) && (ac == 0)) && (ae == 0))) (by first | exact hb | (rw [hb]; rfl) | simp_all) (B r9)) rfl) ?_
 refine zM (B (((((aa == 0) && (ab == 0)) && (ac == 0)) && (ae == 0)) && r9)) rfl ?_
 refine g_val (((((aa == 0) && (ab == 0)) && (ac == 0)) && (ae == 0)) && r9) (gy_t rfl) (fun hg => x_mv (v := aD) rfl) ?_
 refine t_gbs (α := Int) T22 (((((aa == 0) && (ab == 0)) && (ac == 0)) && (ae == 0)) && r9) (gy_t rfl) [I 0] [(0 : Int)] H (fun _ => rfl) (.cons rfl (Flat.rep_enc _ (0 : Int)) <| .nil) rfl rfl rfl ?_
 intro cu e6 i0 H fU
 obtain ⟨am, fV, hM⟩ := M.e_bind hM
 refine t_gcall (((((aa == 0) && (ab == 0)) && (ac == 0)) && (ae == 0)) && r9) (gy_t rfl) cf15 (B am) (fun _ => [aD, cu]) (fun hg => lst2 (gd_of (c := (((((aa == 0) && (ab == 0)) && (ac == 0)) && (ae == 0)) && r9)) hg (aD)) (gd_of (c := (((((aa == 0) && (ab == 0)) && (ac == 0)) && (ae == 0)) && r9)) hg (cu))) H (fun hg => (zac bu ([(0 : Int)]) (rdo 7) (H.os 7) (Reads.of (k := 0) rfl roLe) (fU hg) (M.e_opt fV hg) _ (H.give (A := []) rfl)).mono fun v_ w_ ⟨y_, ax, aB, H_⟩ => by subst ax; exact ⟨aB, H.via H_⟩) ?_
 intro i1 H
 refine s_val (x_pand (b := (((((aa == 0) && (ab == 0)) && (ac == 0)) && (ae == 0)) && r9)) (r := am) rfl (fun hb => gd_of (c := (((((aa == 0) && (ab == 0)) && (ac == 0)) && (ae == 0)) && r9)) (by first | exact hb | (rw [hb]; rfl) | simp_all) (B am)) rfl) ?_
 refine zM (B ((((((aa == 0) && (ab == 0)) && (ac == 0)) && (ae == 0)) && r9) && am)) rfl ?_
 refine g_val ((((((aa == 0) && (ab == 0)) && (ac == 0)) && (ae == 0)) && r9) && am) (gy_t rfl) (fun hg => x_mv (v := aG) rfl) ?_
 refine g_val ((((((aa == 0) && (ab == 0)) && (ac == 0)) && (ae == 0)) && r9) && am) (gy_t rfl) (fun hg => x_lenS T22.und (gd_of (c := ((((((aa == 0) && (ab == 0)) && (ac == 0)) && (ae == 0)) && r9) && am)) hg (aG)) (H.os 4)) ?_
 refine g_val ((((((aa == 0) && (ab == 0)) && (ac == 0)) && (ae == 0)) && r9) && am) (gy_t rfl) (fun hg => x_mv (v := aH) rfl) ?_
 refine g_val ((((((aa == 0) && (ab == 0)) && (ac == 0)) && (ae == 0)) && r9) && am) (gy_t rfl) (fun hg => x_lenS T22.und (gd_of (c := ((((((aa == 0) && (ab == 0)) && (ac == 0)) && (ae == 0)) && r9) && am)) hg (aH)) (H.os 5)) ?_
 obtain ⟨ba, hM⟩ := M.e_grd hM
 replace ba := M.imp_of ba
 simp only [Bool.and_eq_true, decide_eq_true_eq] at ba
 refine g_val ((((((aa == 0) && (ab == 0)) && (ac == 0)) && (ae == 0)) && r9) && am) (gy_t rfl) (fun hg => x_ari (a := (aq.length : Int)) (b := (au.length : Int)) (r := (aq.length : Int) + (au.length : Int)) (gd_of (c := ((((((aa == 0) && (ab == 0)) && (ac == 0)) && (ae == 0)) && r9) && am)) hg (I (aq.length : Int))) (gd_of (c := ((((((aa == 0) && (ab == 0)) && (ac == 0)) && (ae == 0)) && r9) && am)) hg (I (au.length : Int))) rfl (by have aP := ba.resolve_left (by rw [hg]; decide); first | exact aP | exact aP.1 | exact aP.2 | omega | (have aQ := hg; simp at aQ; omega))) ?_
 refine g_val ((((((aa == 0) && (ab == 0)) && (ac == 0)) && (ae == 0)) && r9) && am) (gy_t rfl) (fun hg => x_cmp (kd := .i64) (a := (aq.length : Int) + (au.length : Int)) (b := 0) (r := ((aq.length : Int) + (au.length : Int)) == 0) (gd_of (c := ((((((aa == 0) && (ab == 0)) && (ac == 0)) && (ae == 0)) && r9) && am)) hg (I ((aq.length : Int) + (au.length : Int)))) rfl rfl) ?_
 refine s_val (x_pand (b := ((((((aa == 0) && (ab == 0)) && (ac == 0)) && (ae == 0)) && r9) && am)) (r := ((aq.length : Int) + (au.length : Int)) == 0) rfl (fun hb => gd_of (c := ((((((aa == 0) && (ab == 0)) && (ac == 0)) && (ae == 0)) && r9) && am)) (by first | exact hb | (rw [hb]; rfl) | simp_all) (B (((aq.length : Int) + (au.length : Int)) == 0))) rfl) ?_
 refine zM (B (((((((aa == 0) && (ab == 0)) && (ac == 0)) && (ae == 0)) && r9) && am) && (((aq.length : Int) + (au.length : Int)) == 0))) rfl ?_
 refine g_val (((((((aa == 0) && (ab == 0)) && (ac == 0)) && (ae == 0)) && r9) && am) && (((aq.length : Int) + (au.length : Int)) == 0)) (gy_t rfl) (fun hg => x_mv (v := aE) rfl) ?_
 refine t_gbs (α := Int) T22 (((((((aa == 0) && (ab == 0)) && (ac == 0)) && (ae == 0)) && r9) && am) && (((aq.length : Int) + (au.length : Int)) == 0)) (gy_t rfl) [I 1] [(1 : Int)] H (fun _ => rfl) (.cons rfl (Flat.rep_enc _ (1 : Int)) <| .nil) rfl rfl rfl ?_
 intro cv e9 i4 H fW
 obtain ⟨ay, fX, hM⟩ := M.e_bind hM
 refine t_gcall (((((((aa == 0) && (ab == 0)) && (ac == 0)) && (ae == 0)) && r9) && am) && (((aq.length : Int) + (au.length : Int)) == 0)) (gy_t rfl) cf15 (B ay) (fun _ => [aE, cv]) (fun hg => lst2 (gd_of (c := (((((((aa == 0) && (ab == 0)) && (ac == 0)) && (ae == 0)) && r9) && am) && (((aq.length : Int) + (au.length : Int)) == 0))) hg (aE)) (gd_of (c := (((((((aa == 0) && (ab == 0)) && (ac == 0)) && (ae == 0)) && r9) && am) && (((aq.length : Int) + (au.length : Int)) == 0))) hg (cv))) H (fun hg => (zac bQ ([(1 : Int)]) (rdo 4) (H.os 4) (Reads.of (k := 0) rfl roLe) (fW hg) (M.e_opt fX hg) _ (H.give (A := []) rfl)).mono fun v_ w_ ⟨y_, ax, aB, H_⟩ => by subst ax; exact ⟨aB, H.via H_⟩) ?_
 intro i5 H
 refine s_val (x_pand (b := (((((((aa == 0) && (ab == 0)) && (ac == 0)) && (ae == 0)) && r9) && am) && (((aq.length : Int) + (au.length : Int)) == 0))) (r := ay) rfl (fun hb => gd_of (c := (((((((aa == 0) && (ab == 0)) && (ac == 0)) && (ae == 0)) && r9) && am) && (((aq.length : Int) + (au.length : Int)) == 0))) (by first | exact hb | (rw [hb]; rfl) | simp_all) (B ay)) rfl) ?_
 refine zM (B ((((((((aa == 0) && (ab == 0)) && (ac == 0)) && (ae == 0)) && r9) && am) && (((aq.length : Int) + (au.length : Int)) == 0)) && ay)) rfl ?_
 refine g_val ((((((((aa == 0) && (ab == 0)) && (ac == 0)) && (ae == 0)) && r9) && am) && (((aq.length : Int) + (au.length : Int)) == 0)) && ay) (gy_t rfl) (fun hg => x_mv (v := aF) rfl) ?_
 refine t_gbs (α := Int) T22 ((((((((aa == 0) && (ab == 0)) && (ac == 0)) && (ae == 0)) && r9) && am) && (((aq.length : Int) + (au.length : Int)) == 0)) && ay) (gy_t rfl) [I 0] [(0 : Int)] H (fun _ => rfl) (.cons rfl (Flat.rep_enc _ (0 : Int)) <| .nil) rfl rfl rfl ?_
 intro cw fi i6 H fY
 obtain ⟨aK, fZ, hM⟩ := M.e_bind hM
 refine t_gcall ((((((((aa == 0) && (ab == 0)) && (ac == 0)) && (ae == 0)) && r9) && am) && (((aq.length : Int) + (au.length : Int)) == 0)) && ay) (gy_t rfl) cf15 (B aK) (fun _ => [aF, cw]) (fun hg => lst2 (gd_of (c := ((((((((aa == 0) && (ab == 0)) && (ac == 0)) && (ae == 0)) && r9) && am) && (((aq.length : Int) + (au.length : Int)) == 0)) && ay)) hg (aF)) (gd_of (c := ((((((((aa == 0) && (ab == 0)) && (ac == 0)) && (ae == 0)) && r9) && am) && (((aq.length : Int) + (au.length : Int)) == 0)) && ay)) hg (cw))) H (fun hg => (zac b4 ([(0 : Int)]) (rdo 4) (H.os 4) (Reads.of (k := 0) rfl roLe) (fY hg) (M.e_opt fZ hg) _ (H.give (A := []) rfl)).mono fun v_ w_ ⟨y_, ax, aB, H_⟩ => by subst ax; exact ⟨aB, H.via H_⟩) ?_
 intro i7 H
 refine s_val (x_pand (b := ((((((((aa == 0) && (ab == 0)) && (ac == 0)) && (ae == 0)) && r9) && am) && (((aq.length : Int) + (au.length : Int)) == 0)) && ay)) (r := aK) rfl (fun hb => gd_of (c := ((((((((aa == 0) && (ab == 0)) && (ac == 0)) && (ae == 0)) && r9) && am) && (((aq.length : Int) + (au.length : Int)) == 0)) && ay)) (by first | exact hb | (rw [hb]; rfl) | simp_all) (B aK)) rfl) ?_
 refine zA (B (((((((((aa == 0) && (ab == 0)) && (ac == 0)) && (ae == 0)) && r9) && am) && (((aq.length : Int) + (au.length : Int)) == 0)) && ay) && aK)) rfl ?_
 refine s_nil ?_
 replace H := H.pk []
 refine W.ret ?_
 have ax := M.e_pure hM
 exact ⟨_, resE_tmp rfl, ⟨(((((((((aa == 0) && (ab == 0)) && (ac == 0)) && (ae == 0)) && r9) && am) && (((aq.length : Int) + (au.length : Int)) == 0)) && ay) && aK), ax, rfl, H⟩⟩

end Go.Proofs.YtbaehghammbjdaaGreat
end
namespace Go.Proofs.YtbaehghammbjdaaGreat
open Go Go.Nm
end Go.Proofs.YtbaehghammbjdaaGreat
namespace Go.Proofs.YtbaehghammbjdaaGreat
open Go Go.Nm
theorem awake_ends : (zbU).Ends true := ⟨300, by kernel_rfl⟩
end Go.Proofs.YtbaehghammbjdaaGreat
namespace Go.Nm
namespace Wn
/-- A river that is right. -/
structure Rv (dn : List Int) (tr : List Span) (sp : List Int) (tw : List Town) (dl dh : Int) (fl : List Flood) : Prop where
  n1 : 1 <= dn.length
  n12 : dn.length <= 12
  nx : Dn dn
  tl : tr.length = dn.length
  hr : ∀ i, i < tr.length -> 0 <= (tr.getD i default).lo /\ (tr.getD i default).lo <= (tr.getD i default).hi /\ (tr.getD i default).hi <= 1000
  s1 : 1 <= sp.length
  s8 : sp.length <= 8
  sr : sp.Pairwise (· < ·)
  si : ∀ x ∈ sp, 0 <= x /\ x < dn.length
  t8 : tw.length <= 8
  tok : ∀ t ∈ tw, (0 <= t.station /\ t.station < dn.length) /\ (0 <= t.lead /\ t.lead <= 1000) /\ 0 <= t.alarm /\ t.alarm <= 2000
  d0 : 0 <= dl
  d1 : dl <= dh
  d2 : dh <= 1000
  f20 : fl.length <= 20
  fok : ∀ f ∈ fl, f.spring ∈ sp /\ f.stages.length = (P dn f.spring).length /\ ∀ x ∈ f.stages, 0 <= x /\ x <= 2000
end Wn
end Go.Nm
namespace Go.Proofs.YtbaehghammbjdaaGreat
open Go Go.Nm
variable {dn : List Int} {tr : List Span} {sp : List Int} {tw : List Town} {dl dh : Int} {fl : List Flood}
/-- A round over a path. -/
theorem path_out {S X : Type} {bd : S -> Int × Int -> M (S ⊕ X)} {Q : S ⊕ X -> Prop} (h : Wn.Dn dn) (h12 : dn.length <= 12) {s : Int} (hs : Wn.Stn dn s) {s0 : S} (J : Nat -> S -> Prop) (h0 : J 0 s0)
    (hr : ∀ k (hk : k < (Wn.P dn s).length) t, J k t -> (bd t ((k : Int), (Wn.P dn s)[k])).Out (fun x => match x with | .inl t' => J (k + 1) t' | .inr x => Q (.inr x))) (hl : ∀ t, J (Wn.P dn s).length t -> Q (.inl t))
    (k11 : List Span) (k12 : List Int) (k13 : List Town) (k14 k15 : Int) (k16 : List Flood) : (zan (M.yl bd) (.inl s0) s dn k11 k12 k13 k14 k15 k16).Out (fun y => Q y.1) := by
  unfold zan
  refine M.o_bind (P := fun y => match y with | .inl t => Q t.1 | .inr t => Q t.1) ?_ (fun y hy => by
    cases y with
    | inl t => exact M.o_pure hy
    | inr t => exact M.o_pure hy)
  have hsh := Wn.P_short h hs
  refine M.o_for (Wn.P dn s).length (fun i (t : Int × Nat × (S ⊕ X)) => t.2.1 = i /\ (Wn.P dn t.1 = (Wn.P dn s).drop i /\ Wn.Stn dn t.1) /\ ∃ t', t.2.2 = .inl t' /\ J i t') ?_ ?_ ⟨rfl, ⟨by rw [List.drop_zero], hs⟩, s0, rfl, h0⟩
  · rintro i ⟨c, q, t⟩ hi ⟨e1, ⟨e2, e3⟩, t', e4, hj⟩
    dsimp only at e1 e2 e3 e4
    subst e1 e4
    simp only [za1]
    have hd : (Wn.P dn s).drop q = (Wn.P dn s)[q] :: (Wn.P dn s).drop (q + 1) := List.drop_eq_getElem_cons hi
    have hc : 0 <= c /\ c < dn.length := by
      rcases e3 with rfl | e3
      · rw [Wn.P_none, hd] at e2
        cases e2
      · exact e3
    rw [Wn.P_cons h hc.1 hc.2, hd] at e2
    obtain ⟨g1, g2⟩ := List.cons.inj e2
    have hx := h.next hc.1 hc.2
    refine M.o_t (by rw [decide_eq_true hc.2]; simp; omega) ?_
    obtain ⟨x, y1, y2⟩ := hr q hi t' hj
    rw [← g1] at y1
    cases x with
    | inl s2 => exact M.o_bindE (a := (true, .inl s2)) (M.i_bind y1 M.i_pure) (M.o_f rfl (M.o_grd (gA2 hc.1 hc.2) (M.o_grd (gA2 (by omega) (by omega)) (M.o_pure ⟨rfl, ⟨g2, h.next_st hc.1 hc.2⟩, s2, rfl, y2⟩))))
    | inr x2 => exact M.o_bindE (a := (false, .inr x2)) (M.i_bind y1 M.i_pure) (M.o_t rfl (M.o_pure y2))
  · rintro ⟨c, q, t⟩ ⟨e1, ⟨e2, e3⟩, t', e4, hj⟩
    dsimp only at e1 e2 e3 e4
    subst e1 e4
    simp only [za1]
    rw [List.drop_length] at e2
    have hc : c = -1 := by
      rcases e3 with e3 | e3
      · exact e3
      · rw [Wn.P_cons h e3.1 e3.2] at e2
        cases e2
    subst hc
    exact M.o_f (by simp) (M.o_pure (hl t' hj))
theorem in_ends (n a b : Int) : (zad n a b).Ends (decide (a <= n) && decide (n <= b)) := M.i_pure
theorem in_true {n a b : Int} (h1 : a <= n) (h2 : n <= b) : (zad n a b).Ends true := by
  have := in_ends n a b
  rwa [gA2 h1 h2] at this
theorem hours_true {s : Span} (h0 : 0 <= s.lo) (h1 : s.lo <= s.hi) (h2 : s.hi <= 1000) : (zaH s).Ends true := by
  unfold zaH
  exact M.i_bind (in_true h0 h1) (M.i_bind (M.i_opt (fun _ => in_true (by omega) h2) (fun h => by cases h)) M.i_pure)
theorem stage_true {n : Int} (h0 : 0 <= n) (h1 : n <= 2000) : (zaz n).Ends true := by
  unfold zaz
  exact M.i_bind (in_true h0 h1) M.i_pure
theorem every_town (l : List Town) (so : Town -> M Bool) (h : ∀ t ∈ l, (so t).Ends true) : (zaN l so).Ends true := by
  unfold zaN zar zbM
  refine M.i_bind (a := false) (M.i_bind (a := -1) (M.i_bind (a := (.inr () : Int ⊕ Unit)) ?_ M.i_pure) M.i_pure) M.i_pure
  refine M.i_for (fun i => i) l.length (fun i hi => ?_) ?_
  · simp only [zat]
    have hm : l.getD i default ∈ l := by rw [List.getD_eq_getElem?_getD, List.getElem?_eq_getElem hi, Option.getD_some]; exact List.getElem_mem hi
    refine M.i_t (decide_eq_true (by omega)) (M.i_grd (decide_eq_true (by omega)) (M.i_bind (a := false) ?_ (M.i_f rfl M.i_pure)))
    unfold zbK
    exact M.i_bind (h _ hm) M.i_pure
  · simp only [zat]
    exact M.i_f (decide_eq_false (by omega)) M.i_pure
theorem every_int (l : List Int) (so : Int -> M Bool) (h : ∀ t ∈ l, (so t).Ends true) : (zaM l so).Ends true := by
  unfold zaM zbY zbR
  refine M.i_bind (a := false) (M.i_bind (a := -1) (M.i_bind (a := (.inr () : Int ⊕ Unit)) ?_ M.i_pure) M.i_pure) M.i_pure
  refine M.i_for (fun i => i) l.length (fun i hi => ?_) ?_
  · simp only [zaR]
    have hm : l.getD i 0 ∈ l := by rw [List.getD_eq_getElem?_getD, List.getElem?_eq_getElem hi, Option.getD_some]; exact List.getElem_mem hi
    refine M.i_t (decide_eq_true (by omega)) (M.i_grd (decide_eq_true (by omega)) (M.i_bind (a := false) ?_ (M.i_f rfl M.i_pure)))
    unfold zbJ
    exact M.i_bind (h _ hm) M.i_pure
  · simp only [zaR]
    exact M.i_f (decide_eq_false (by omega)) M.i_pure
theorem contains_true {s : List Int} {v : Int} (h : v ∈ s) : (zaX s v).Ends true := by
  unfold zaX zaB
  have key : (M.iter (zao s v) 0).Out (fun r => match r with | .inl i => 0 <= i | .inr (_ : Unit) => False) := by
    refine M.o_for s.length (fun i (k : Nat) => k = i /\ ∀ j, j < i -> s.getD j 0 ≠ v) ?_ ?_ ⟨rfl, fun j hj => by omega⟩
    · rintro i _ hi ⟨rfl, hp⟩
      simp only [zao]
      refine M.o_t (decide_eq_true (by omega)) (M.o_grdD (by omega) (M.o_if (fun hb => M.o_pure (by omega)) (fun hb => M.o_pure ⟨rfl, fun j hj => ?_⟩)))
      rcases Nat.lt_or_eq_of_le (Nat.le_of_lt_succ hj) with e | e
      · exact hp j e
      · subst e
        exact fun e => (beq_eq_false_iff_ne.1 hb) e.symm
    · rintro _ ⟨rfl, hp⟩
      exfalso
      obtain ⟨i, hi, e⟩ := List.getElem_of_mem h
      have := hp i hi
      rw [List.getD_eq_getElem?_getD, List.getElem?_eq_getElem hi, Option.getD_some] at this
      exact this e
  obtain ⟨r, h1, h2⟩ := key
  cases r with
  | inl i => exact M.i_bind (M.i_bind h1 M.i_pure) (by rw [decide_eq_true h2]; exact M.i_pure)
  | inr u => exact h2.elim
theorem rising_true {l : List Int} {n : Int} (hn : 0 <= n /\ n <= 1000) (hu : l.Pairwise (· < ·)) (hb : ∀ x ∈ l, 0 <= x /\ x < n) : (zay l n).Ends true := by
  unfold zay
  refine M.i_bind (a := (.inr () : Unit ⊕ Unit)) ?_ M.i_pure
  refine M.Out.ends ?_
  refine M.o_for l.length (fun i (s : Int × Nat) => s.2 = i /\ -1 <= s.1 /\ s.1 < 1000 /\ ∀ j, i <= j -> j < l.length -> s.1 < l.getD j 0) ?_ ?_ ⟨rfl, by decide, by decide, fun j _ hj => ?_⟩
  · rintro i ⟨a, q⟩ hi ⟨e1, e2, e3, e4⟩
    dsimp only at e1 e2 e3 e4
    subst e1
    simp only [zaO]
    have hm : l.getD q 0 ∈ l := by rw [List.getD_eq_getElem?_getD, List.getElem?_eq_getElem hi, Option.getD_some]; exact List.getElem_mem hi
    have h1 := hb _ hm
    have h2 := e4 q (Nat.le_refl _) hi
    refine M.o_t (decide_eq_true (by omega)) (M.o_grdD (by omega) (M.o_grd (gA2 (by omega) (by omega)) (M.o_grd (gA2 (by omega) (by omega)) (M.o_bindE (in_true (by omega) (by omega)) (M.o_f rfl (M.o_pure ⟨rfl, by dsimp only; omega, by dsimp only; omega, fun j h3 h4 => ?_⟩))))))
    have := List.pairwise_iff_getElem.1 hu q j hi h4 (by omega)
    dsimp only
    rw [List.getD_eq_getElem?_getD, List.getElem?_eq_getElem hi, Option.getD_some, List.getD_eq_getElem?_getD, List.getElem?_eq_getElem h4, Option.getD_some]
    exact this
  · rintro ⟨a, q⟩ ⟨e1, _⟩
    dsimp only at e1
    subst e1
    simp only [zaO]
    exact M.o_f (decide_eq_false (by omega)) (M.o_pure rfl)
  · have hm : l.getD j 0 ∈ l := by rw [List.getD_eq_getElem?_getD, List.getElem?_eq_getElem hj, Option.getD_some]; exact List.getElem_mem hj
    have := hb _ hm
    dsimp only
    omega
theorem check_ends (R : Wn.Rv dn tr sp tw dl dh fl) : (zaE dn tr sp tw dl dh fl).Ends 0 := by
  have n1 := R.n1
  have n12 := R.n12
  have tl := R.tl
  have s1 := R.s1
  have s8 := R.s8
  have t8 := R.t8
  have f20 := R.f20
  unfold zaE
  refine M.i_bind (in_true (by omega) (by omega)) (M.i_bind (M.i_opt (fun _ => in_true (by omega) (by omega)) (fun h => by simp [tl] at h)) (M.i_f ?_ ?_))
  · rw [decide_eq_false (by omega), decide_eq_false (by omega), tl]
    simp
  refine M.i_bind (a := (.inr () : Int ⊕ Unit)) ?_ ?_
  · refine M.i_for (fun i => i) dn.length (fun i hi => ?_) ?_
    · simp only [zax]
      have h1 := R.nx i hi
      have h2 := R.hr i (by omega)
      refine M.i_t (decide_eq_true (by omega)) (M.i_grd (decide_eq_true (by omega)) ?_)
      by_cases e : dn.getD i 0 = -1
      · refine M.i_bind (a := false) (M.i_opt (fun h => by rw [e] at h; cases h) (fun _ => rfl)) (M.i_f (by rw [e]; rfl) (M.i_grd (decide_eq_true (by omega)) (M.i_bind (hours_true h2.1 h2.2.1 h2.2.2) (M.i_f rfl M.i_pure))))
      · refine M.i_bind (a := true) (M.i_opt (fun _ => in_true (by omega) (by omega)) (fun h => absurd (bne_eq_false_iff_eq.1 h) e)) (M.i_f (by simp) (M.i_grd (decide_eq_true (by omega)) (M.i_bind (hours_true h2.1 h2.2.1 h2.2.2) (M.i_f rfl M.i_pure))))
    · simp only [zax]
      exact M.i_f (decide_eq_false (by omega)) M.i_pure
  dsimp only
  refine M.i_bind (rising_true (by omega) R.sr R.si) (M.i_f rfl ?_)
  refine M.i_bind (every_town tw _ fun t ht => ?_) (M.i_bind (a := true) (M.i_opt (fun _ => every_town tw _ fun t ht => ?_) (fun h => by cases h)) (M.i_bind (a := true) (M.i_opt (fun _ => hours_true R.d0 R.d1 R.d2) (fun h => by cases h)) (M.i_f rfl ?_)))
  · have k := R.tok t ht
    unfold zaJ
    exact M.i_bind (in_true k.2.1.1 k.2.1.2) (M.i_bind (M.i_opt (fun _ => stage_true k.2.2.1 k.2.2.2) (fun h => by cases h)) M.i_pure)
  · have k := R.tok t ht
    unfold zaI
    exact M.i_grd (gA2 (by omega) (by omega)) (M.i_bind (in_true k.1.1 (by omega)) M.i_pure)
  refine M.i_bind (a := (.inr () : Int ⊕ Unit)) ?_ M.i_pure
  refine M.Out.ends ?_
  refine M.o_for fl.length (fun i (k : Nat) => k = i) ?_ ?_ rfl
  · rintro _ i hi rfl
    simp only [zaD]
    have hm : fl.getD i default ∈ fl := by rw [List.getD_eq_getElem?_getD, List.getElem?_eq_getElem hi, Option.getD_some]; exact List.getElem_mem hi
    obtain ⟨k1, k2, k3⟩ := R.fok _ hm
    have hs := R.si _ k1
    have hst : Wn.Stn dn (fl.getD i default).spring := .inr hs
    have hsh := Wn.P_short R.nx hst
    have hp : (zap dn tr sp tw dl dh fl (max 0 (fl.getD i default).spring)).Ends ((fl.getD i default).spring, dl, dh) := by
      rw [show max 0 (fl.getD i default).spring = (fl.getD i default).spring by omega]
      exact M.i_pure
    refine M.o_t (decide_eq_true (by omega)) (M.o_grdD (by omega) (M.o_bindE hp ?_))
    dsimp only
    refine M.o_bind (path_out (Q := fun x => x = (.inl ((Wn.P dn (fl.getD i default).spring).length : Int) : Int ⊕ Unit)) R.nx R.n12 hst (fun k (c : Int) => c = (k : Int)) rfl ?_ ?_ _ _ _ _ _ _) ?_
    · rintro k hk _ rfl
      simp only [zas]
      exact M.o_grd (gA2 (by omega) (by omega)) (M.o_pure (by omega))
    · rintro _ rfl
      rfl
    · rintro ⟨x, q⟩ hq
      dsimp only at hq
      subst hq
      dsimp only
      refine M.o_bindE (contains_true k1) (M.o_f (by rw [k2]; simp) (M.o_bindE (every_int _ _ fun x hx => stage_true (k3 x hx).1 (k3 x hx).2) (M.o_f rfl (M.o_pure rfl))))
  · rintro _ rfl
    simp only [zaD]
    exact M.o_f (decide_eq_false (by omega)) (M.o_pure rfl)
theorem opened_ends (R : Wn.Rv dn tr sp tw dl dh fl) : (zau dn tr sp tw dl dh fl).Ends (.inr (dl, dh, 0)) := by
  unfold zau
  exact M.i_bind (check_ends R) (M.i_f rfl M.i_pure)
end Go.Proofs.YtbaehghammbjdaaGreat
namespace Go.Nm
namespace Wn
/-- A report of a flood. -/
structure Rp (ws : List Int) (r : Int × Int × Bool) : Prop where
  w : r.1 = -1 ∨ r.1 ∈ ws
  s : 0 <= r.2.1 /\ r.2.1 <= 2000
end Wn
end Go.Nm
namespace Go.Proofs.YtbaehghammbjdaaGreat
open Go Go.Nm
variable {dn : List Int} {tr : List Span} {sp : List Int} {tw : List Town} {dl dh : Int} {fl : List Flood} {ws : List Int}
theorem index_out (s : List Int) (v : Int) : (zaB s v).Out (fun r => (r = -1 /\ v ∉ s) ∨ ∃ k : Nat, r = k /\ k < s.length /\ s.getD k 0 = v) := by
  unfold zaB
  refine M.o_bind (P := fun r => match r with | .inl r => ∃ k : Nat, r = (k : Int) /\ k < s.length /\ s.getD k 0 = v | .inr (_ : Unit) => v ∉ s) ?_ ?_
  · refine M.o_for s.length (fun i (k : Nat) => k = i /\ ∀ j, j < i -> s.getD j 0 ≠ v) ?_ ?_ ⟨rfl, fun j hj => by omega⟩
    · rintro i _ hi ⟨rfl, hp⟩
      simp only [zao]
      refine M.o_t (decide_eq_true (by omega)) (M.o_grdD (by omega) (M.o_if (fun hb => M.o_pure ⟨_, rfl, hi, (beq_iff_eq.1 hb).symm⟩) (fun hb => M.o_pure ⟨rfl, fun j hj => ?_⟩)))
      rcases Nat.lt_or_eq_of_le (Nat.le_of_lt_succ hj) with e | e
      · exact hp j e
      · subst e
        exact fun e => (beq_eq_false_iff_ne.1 hb) e.symm
    · rintro _ ⟨rfl, hp⟩
      simp only [zao]
      refine M.o_f (decide_eq_false (by omega)) (M.o_pure ?_)
      intro h
      obtain ⟨i, hi, e⟩ := mem_getD h 0
      exact hp i hi e
  · rintro (r | r) h
    · exact M.o_pure (.inr h)
    · exact M.o_pure (.inl ⟨rfl, h⟩)
/-- Watches, and what is reported of each flood. -/
structure Jd (dn : List Int) (tr : List Span) (sp : List Int) (tw : List Town) (dl dh : Int) (fl : List Flood) (ws : List Int) (ar : List Bool) (rp : Nat -> Int × Int × Bool) (ix : Int -> Int) : Prop where
  R : Wn.Rv dn tr sp tw dl dh fl
  up : ws.Pairwise (· < ·)
  bd : ∀ x ∈ ws, 0 <= x /\ x < (dn.length : Int)
  post : (zam dn tr sp tw dl dh fl ws).Ends (.inr (dl, dh, ar, 0))
  rep : ∀ i, i < fl.length -> (zak dn tr sp tw dl dh fl (fl.getD i default) ar).Ends (rp i)
  ok : ∀ i, i < fl.length -> Wn.Rp ws (rp i)
  ixe : ∀ v, (zaB ws v).Ends (ix v)
  ix1 : ∀ v, (ix v = -1 /\ v ∉ ws) ∨ ∃ k : Nat, ix v = k /\ k < ws.length /\ ws.getD k 0 = v
variable {ar : List Bool} {rp : Nat -> Int × Int × Bool} {ix : Int -> Int}
theorem chosen52_ends (J : Jd dn tr sp tw dl dh fl ws ar rp ix) (x : Int) : (zbX dn tr sp tw dl dh fl ar x).Ends (Wn.ch fl.length fun i => (rp i).2.2 && ((rp i).1 == x)) := by
  unfold zbX
  have h20 := J.R.f20
  refine M.i_bind (a := (Wn.ch fl.length fun i => (rp i).2.2 && ((rp i).1 == x), Wn.ch fl.length fun i => (rp i).2.2 && ((rp i).1 == x))) ?_ M.i_pure
  refine M.i_for (fun i => (i, Wn.ch i fun i => (rp i).2.2 && ((rp i).1 == x))) fl.length (fun i hi => ?_) ?_
  · simp only [zbF]
    have hc := Wn.ch_le (m := i) (q := fun i => (rp i).2.2 && ((rp i).1 == x))
    refine M.i_t (decide_eq_true (by omega)) (M.i_grd (decide_eq_true (by omega)) (M.i_bind (J.rep i hi) (M.i_bind (a := ((rp i).2.2 && ((rp i).1 == x))) M.i_pure ?_)))
    rw [Wn.ch_succ]
    by_cases e : ((rp i).2.2 && ((rp i).1 == x)) = true
    · rw [if_pos e]
      exact M.i_t e (M.i_grd (decide_eq_true (by simp; omega)) M.i_pure)
    · rw [if_neg e]
      exact M.i_f (by simpa using e) M.i_pure
  · simp only [zbF]
    exact M.i_f (decide_eq_false (by omega)) M.i_pure
/-- Whether a flood is warned of. -/
def Wd (rp : Nat -> Int × Int × Bool) (ix : Int -> Int) (th : List Int) (i : Nat) : Bool := decide (0 <= ix (rp i).1) && decide (th.getD (Int.toNat (ix (rp i).1)) 0 <= (rp i).2.1)
theorem judge2_ends (J : Jd dn tr sp tw dl dh fl ws ar rp ix) {th : List Int} (hl : th.length = ws.length) (i : Nat) : (zbN (⟨(rp i).1, (rp i).2.1, (rp i).2.2⟩ : Rpt) ws th).Ends (Wd rp ix th i) := by
  unfold zbN
  refine M.i_bind (J.ixe _) (M.i_grd ?_ M.i_pure)
  rcases J.ix1 (rp i).1 with ⟨e, _⟩ | ⟨k, e, hk, _⟩
  · dsimp only
    rw [e]
    rfl
  · dsimp only
    rw [e]
    exact gOr2 (by omega) (by omega)
theorem chosen57_ends (J : Jd dn tr sp tw dl dh fl ws ar rp ix) {th : List Int} (hl : th.length = ws.length) : (zb6 dn tr sp tw dl dh fl ar ws th).Ends (Wn.ch fl.length fun i => (rp i).2.2 && !Wd rp ix th i) := by
  unfold zb6
  have h20 := J.R.f20
  refine M.i_bind (a := (Wn.ch fl.length fun i => (rp i).2.2 && !Wd rp ix th i, Wn.ch fl.length fun i => (rp i).2.2 && !Wd rp ix th i)) ?_ M.i_pure
  refine M.i_for (fun i => (i, Wn.ch i fun i => (rp i).2.2 && !Wd rp ix th i)) fl.length (fun i hi => ?_) ?_
  · simp only [zbk]
    have hc := Wn.ch_le (m := i) (q := fun i => (rp i).2.2 && !Wd rp ix th i)
    refine M.i_t (decide_eq_true (by omega)) (M.i_grd (decide_eq_true (by omega)) (M.i_bind (J.rep i hi) (M.i_bind (a := ((rp i).2.2 && !Wd rp ix th i)) ?_ ?_)))
    · unfold zcl
      dsimp only
      cases hd : (rp i).2.2 with
      | true =>
        have := judge2_ends J hl i
        rw [hd] at this
        exact M.i_bind (M.i_opt (fun _ => this) (fun h => by cases h)) M.i_pure
      | false => exact M.i_bind (M.i_opt (r := false) (fun h => by cases h) (fun _ => rfl)) M.i_pure
    rw [Wn.ch_succ]
    by_cases e : ((rp i).2.2 && !Wd rp ix th i) = true
    · rw [if_pos e]
      exact M.i_t e (M.i_grd (decide_eq_true (by simp; omega)) M.i_pure)
    · rw [if_neg e]
      exact M.i_f (by simpa using e) M.i_pure
  · simp only [zbk]
    exact M.i_f (decide_eq_false (by omega)) M.i_pure
theorem chosen58_ends (J : Jd dn tr sp tw dl dh fl ws ar rp ix) {th : List Int} (hl : th.length = ws.length) : (zbP dn tr sp tw dl dh fl ar ws th).Ends (Wn.ch fl.length fun i => !(rp i).2.2 && Wd rp ix th i) := by
  unfold zbP
  have h20 := J.R.f20
  refine M.i_bind (a := (Wn.ch fl.length fun i => !(rp i).2.2 && Wd rp ix th i, Wn.ch fl.length fun i => !(rp i).2.2 && Wd rp ix th i)) ?_ M.i_pure
  refine M.i_for (fun i => (i, Wn.ch i fun i => !(rp i).2.2 && Wd rp ix th i)) fl.length (fun i hi => ?_) ?_
  · simp only [zbm]
    have hc := Wn.ch_le (m := i) (q := fun i => !(rp i).2.2 && Wd rp ix th i)
    refine M.i_t (decide_eq_true (by omega)) (M.i_grd (decide_eq_true (by omega)) (M.i_bind (J.rep i hi) (M.i_bind (a := (!(rp i).2.2 && Wd rp ix th i)) ?_ ?_)))
    · unfold zce
      dsimp only
      cases hd : (rp i).2.2 with
      | false =>
        have := judge2_ends J hl i
        rw [hd] at this
        exact M.i_bind (M.i_opt (fun _ => this) (fun h => by cases h)) M.i_pure
      | true => exact M.i_bind (M.i_opt (r := false) (fun h => by cases h) (fun _ => rfl)) M.i_pure
    rw [Wn.ch_succ]
    by_cases e : (!(rp i).2.2 && Wd rp ix th i) = true
    · rw [if_pos e]
      exact M.i_t e (M.i_grd (decide_eq_true (by simp; omega)) M.i_pure)
    · rw [if_neg e]
      exact M.i_f (by simpa using e) M.i_pure
  · simp only [zbm]
    exact M.i_f (decide_eq_false (by omega)) M.i_pure
theorem judge_ends (J : Jd dn tr sp tw dl dh fl ws ar rp ix) {th : List Int} (hl : th.length = ws.length) (hv : ∀ x ∈ th, 0 <= x /\ x <= 2001) :
    (zah dn tr sp tw dl dh fl ws th).Ends (Wn.ch fl.length fun i => (rp i).2.2 && !Wd rp ix th i, Wn.ch fl.length fun i => !(rp i).2.2 && Wd rp ix th i, 0) := by
  unfold zah
  refine M.i_bind J.post (M.i_f rfl (M.i_f ?_ (M.i_bind (every_int _ _ fun x hx => ?_) (M.i_f rfl (M.i_bind (chosen57_ends J hl) (M.i_bind (chosen58_ends J hl) M.i_pure))))))
  · rw [hl]; simp
  · unfold zbb
    exact M.i_bind (in_true (hv x hx).1 (hv x hx).2) M.i_pure
end Go.Proofs.YtbaehghammbjdaaGreat
section
set_option maxRecDepth 100000
set_option maxHeartbeats 16000000
namespace Go.Proofs.YtbaehghammbjdaaGreat
open Go Go.Nm
def zav (l : List Int) : M (List Int) :=
  M.grd (decide ((([] : List Int).length + l.length) * 8 <= 140737488355328)) <|
  M.pure l
theorem zae {R : List Chunk} {ab : Cells} {aa : Value} (l : List Int) (ae : Reads R ab) (ag : Sl ab aa l) {r : (List Int)} (hM : (zav l).Ends r) (w : World) (H : St w w [] R) : Ret Tryz.prog 9 #[aa] w fun v w' => ∃ (y0 : List Int) (u0 : Value), y0 = r /\ v = u0 /\ St w w' [cOwn (α := Int) 3 u0 y0] R := by
 refine ret_of_W Tryz.func9 rfl rfl rfl ?_
 refine W.seq ?_
 refine W.region rfl ?_
 refine zA (.slice none 0 0) rfl ?_
 refine s_nil ?_
 refine W.seq ?_
 refine W.region rfl ?_
 refine zA (.slice none 0 0) rfl ?_
 refine s_nil ?_
 refine W.seq ?_
 refine W.region rfl ?_
 refine zM (.slice none 0 0) rfl ?_
 refine zM aa rfl ?_
 replace H := H.nilOwn (α := Int) 3
 obtain ⟨ah, hM⟩ := M.e_grd hM
 simp only [Bool.and_eq_true, decide_eq_true_eq] at ah
 refine t_app (α := Int) (k := 0) (l := []) (l2 := l) (l' := l) (vy := aa) T22 rfl H rfl rfl rfl ag (ae.at H) (List.nil_append _) (by first | omega | (simp only [List.length_nil] at *; omega)) ?_
 intro ac aj H
 replace H := H.nf
 refine zA ac rfl ?_
 refine s_nil ?_
 refine W.ret ?_
 have ai := M.e_pure hM
 exact ⟨_, resE_tmp rfl, ⟨l, ac, ai, rfl, H⟩⟩

def zbZ (l : List Span) : M (List Span) :=
  M.grd (decide ((([] : List Span).length + l.length) * 16 <= 140737488355328)) <|
  M.pure l
theorem za0 {R : List Chunk} {ab : Cells} {aa : Value} (l : List Span) (ae : Reads R ab) (ag : Sl ab aa l) {r : (List Span)} (hM : (zbZ l).Ends r) (w : World) (H : St w w [] R) : Ret Tryz.prog 44 #[aa] w fun v w' => ∃ (y0 : List Span) (u0 : Value), y0 = r /\ v = u0 /\ St w w' [cOwn (α := Span) 26 u0 y0] R := by
 refine ret_of_W Tryz.func44 rfl rfl rfl ?_
 refine W.seq ?_
 refine W.region rfl ?_
 refine zA (.slice none 0 0) rfl ?_
 refine s_nil ?_
 refine W.seq ?_
 refine W.region rfl ?_
 refine zA (.slice none 0 0) rfl ?_
 refine s_nil ?_
 refine W.seq ?_
 refine W.region rfl ?_
 refine zM (.slice none 0 0) rfl ?_
 refine zM aa rfl ?_
 replace H := H.nilOwn (α := Span) 26
 obtain ⟨ah, hM⟩ := M.e_grd hM
 simp only [Bool.and_eq_true, decide_eq_true_eq] at ah
 refine t_app (α := Span) (k := 0) (l := []) (l2 := l) (l' := l) (vy := aa) T23 rfl H rfl rfl rfl ag (ae.at H) (List.nil_append _) (by first | omega | (simp only [List.length_nil] at *; omega)) ?_
 intro ac aj H
 replace H := H.nf
 refine zA ac rfl ?_
 refine s_nil ?_
 refine W.ret ?_
 have ai := M.e_pure hM
 exact ⟨_, resE_tmp rfl, ⟨l, ac, ai, rfl, H⟩⟩

def zcq (l : List Town) : M (List Town) :=
  M.grd (decide ((([] : List Town).length + l.length) * 24 <= 140737488355328)) <|
  M.pure l
theorem zbe {R : List Chunk} {ab : Cells} {aa : Value} (l : List Town) (ae : Reads R ab) (ag : Sl ab aa l) {r : (List Town)} (hM : (zcq l).Ends r) (w : World) (H : St w w [] R) : Ret Tryz.prog 45 #[aa] w fun v w' => ∃ (y0 : List Town) (u0 : Value), y0 = r /\ v = u0 /\ St w w' [cOwn (α := Town) 91 u0 y0] R := by
 refine ret_of_W Tryz.func45 rfl rfl rfl ?_
 refine W.seq ?_
 refine W.region rfl ?_
 refine zA (.slice none 0 0) rfl ?_
 refine s_nil ?_
 refine W.seq ?_
 refine W.region rfl ?_
 refine zA (.slice none 0 0) rfl ?_
 refine s_nil ?_
 refine W.seq ?_
 refine W.region rfl ?_
 refine zM (.slice none 0 0) rfl ?_
 refine zM aa rfl ?_
 replace H := H.nilOwn (α := Town) 91
 obtain ⟨ah, hM⟩ := M.e_grd hM
 simp only [Bool.and_eq_true, decide_eq_true_eq] at ah
 refine t_app (α := Town) (k := 0) (l := []) (l2 := l) (l' := l) (vy := aa) T24 rfl H rfl rfl rfl ag (ae.at H) (List.nil_append _) (by first | omega | (simp only [List.length_nil] at *; omega)) ?_
 intro ac aj H
 replace H := H.nf
 refine zA ac rfl ?_
 refine s_nil ?_
 refine W.ret ?_
 have ai := M.e_pure hM
 exact ⟨_, resE_tmp rfl, ⟨l, ac, ai, rfl, H⟩⟩

def zbC (aa : List Flood) : (Nat × (List Flood)) -> M ((Nat × (List Flood)) ⊕ ((List Flood) × (List Flood))) := fun (i, l) =>
  bif decide ((i : Int) < (aa.length : Int)) then (
  M.grd (decide ((i : Int) < (aa.length : Int))) <|
  M.bind (zav ((aa.getD i default).stages)) fun r6 =>
  M.grd (decide ((l.length + ([(⟨((aa.getD i default).spring : Int), r6⟩ : Flood)]).length) * 32 <= 140737488355328)) <|
  M.pure (.inl (i + 1, l ++ ([(⟨((aa.getD i default).spring : Int), r6⟩ : Flood)]))))
  else (
  M.pure (.inr (l, l)))
def zb4 (aa : Int) (ab : Int) (ac : List Flood) (r2 : List Int) (r3 : List Span) (r4 : List Int) (r5 : List Town) : M ((List Int) × (List Span) × (List Int) × (List Town) × Int × Int × (List Flood)) :=
  M.bind (M.iter (zbC ac) (0, [])) fun (l2, l3) =>
  M.pure (r2, r3, r4, r5, aa, ab, l3)
def zb3 (aa : List Int) (ab : List Span) (ac : List Int) (ae : List Town) (ag : Int) (ah : Int) (ai : List Flood) : M ((List Int) × (List Span) × (List Int) × (List Town) × Int × Int × (List Flood)) :=
  M.bind (zav aa) fun r2 =>
  M.bind (zbZ ab) fun r3 =>
  M.bind (zav ac) fun r4 =>
  M.bind (zcq ae) fun r5 =>
  zb4 ag ah ai r2 r3 r4 r5
theorem zdp {R : List Chunk} {bz : Cells} {az : Value} {bA : Cells} {ay : Value} {bB : Cells} {ax : Value} {bC : Cells} {aw : Value} {bD : Cells} {ap : Value} (aR : List Int) (aK : List Span) (aI : List Int) (aB : List Town) (ag : Int) (ah : Int) (aj : List Flood) (bE : Reads R bz) (bF : Sl bz az aR) (bh : Reads R bA) (bi : Sl bA ay aK) (aS : Reads R bB) (aT : Sl bB ax aI) (aL : Reads R bC) (aM : Sl bC aw aB) (aU : Reads R bD) (aA : Sl bD ap aj) {r : ((List Int) × (List Span) × (List Int) × (List Town) × Int × Int × (List Flood))} (hM : (zb3 aR aK aI aB ag ah aj).Ends r) (w : World) (H : St w w [] R) : Ret Tryz.prog 8 #[.agg #[az, ay, ax, aw, I ag, I ah, ap]] w fun v w' => ∃ (y0 : List Int) (y1 : List Span) (y2 : List Int) (y3 : List Town) (y4 : Int) (y5 : Int) (y6 : List Flood) (u0 : Value) (u1 : Value) (u2 : Value) (u3 : Value) (u4 : Value) (rr5 : List (Raw 1)) (bG : Base), (y0, y1, y2, y3, y4, y5, y6) = r /\ v = .agg #[u0, u1, u2, u3, I y4, I y5, u4] /\ St w w' [cOwn (α := Int) 3 u0 y0, cOwn (α := Span) 26 u1 y1, cOwn (α := Int) 3 u2 y2, cOwn (α := Town) 91 u3 y3, cOwn (α := Raw 1) 85 u4 rr5, cRo bG] R /\ RepR (α := Flood) bG.cells rr5 y6 := by
 refine ret_of_W Tryz.func8 rfl rfl rfl ?_
 refine W.seq ?_
 refine W.region rfl ?_
 refine t_box (v := .agg #[az, ay, ax, aw, I ag, I ah, ap]) (cs := [az, ay, ax, aw, I ag, I ah, ap]) H rfl rfl ?_
 intro ak di H
 refine t_alloc (cs := [.slice none 0 0, .slice none 0 0, .slice none 0 0, .slice none 0 0, I 0, I 0, .slice none 0 0]) H Al29 rfl ?_
 intro aJ dj H
 refine s_nil ?_
 refine W.seqJ (fun σ W => ∃ (am : Nat) (r2 : List Int) (r3 : List Span) (r4 : List Int) (r5 : List Town) (ai : Value) (ac : Value) (ab : Value) (aa : Value) (ρ : Env), σ = upds ρ [(1, Pq ak), (2, Pq aJ), (3, Pq am)] /\ (zb4 ag ah aj r2 r3 r4 r5).Ends r /\ St w W [cBlk am [ai, ac, ab, aa, I ag, I ah, .slice none 0 0] 29, cOwn (α := Town) 91 aa r5, cOwn (α := Int) 3 ab r4, cOwn (α := Span) 26 ac r3, cOwn (α := Int) 3 ai r2, cBlk aJ [.slice none 0 0, .slice none 0 0, .slice none 0 0, .slice none 0 0, I 0, I 0, .slice none 0 0] 29, cBlk ak [az, ay, ax, aw, I ag, I ah, ap] 29] R) ?_ ?_
 ·skip
  refine W.drawT (fun W => St w W [cBlk aJ [.slice none 0 0, .slice none 0 0, .slice none 0 0, .slice none 0 0, I 0, I 0, .slice none 0 0] 29, cBlk ak [az, ay, ax, aw, I ag, I ah, ap] 29] R) (.q 0 (.q 1 (.q 3 (.q 4 (.q 6 (.q 7 (.q 9 (.q 10 (.q 12 (.q 13 (.l2 2 (.l2 5 (.l2 8 (.l2 11 (.q 14 (.l 15 (.l 16 .nil))) 15 (.l 11 (.q 14 (.l 16 .nil)))) 15 (.l 8 (.l 11 (.q 14 (.l 16 .nil))))) 15 (.l 5 (.l 8 (.l 11 (.q 14 (.l 16 .nil)))))) 15 (.l 2 (.l 5 (.l 8 (.l 11 (.q 14 (.l 16 .nil))))))))))))))))) mixed (by decide +kernel) rfl ?_
  intro dk aN
  replace H := H.ext aN
  clear aN
  refine ⟨(H.pk [0, 1]), ?_⟩
  refine t_q rfl (fun w' H => x_fa (a := Pq ak) (v := Pq ak) rfl (fa_blk (o := 0) Fd29_0 Sz22)) ?_
  refine t_q rfl (fun w' H => x_ld (p := Pq ak) (v := az) rfl (ldb_sc Sc22 (H.bl 1) rfl)) ?_
  refine t_q rfl (fun w' H => x_fa (a := Pq ak) (v := Oq ak 1) rfl (fa_blk (o := 0) Fd29_1 Sz23)) ?_
  refine t_q rfl (fun w' H => x_ld (p := Oq ak 1) (v := ay) rfl (ldb_sc Sc23 (H.bl 1) rfl)) ?_
  refine t_q rfl (fun w' H => x_fa (a := Pq ak) (v := Oq ak 2) rfl (fa_blk (o := 0) Fd29_2 Sz22)) ?_
  refine t_q rfl (fun w' H => x_ld (p := Oq ak 2) (v := ax) rfl (ldb_sc Sc22 (H.bl 1) rfl)) ?_
  refine t_q rfl (fun w' H => x_fa (a := Pq ak) (v := Oq ak 3) rfl (fa_blk (o := 0) Fd29_3 Sz24)) ?_
  refine t_q rfl (fun w' H => x_ld (p := Oq ak 3) (v := aw) rfl (ldb_sc Sc24 (H.bl 1) rfl)) ?_
  refine t_q rfl (fun w' H => x_fa (a := Pq ak) (v := Oq ak 4) rfl (fa_blk (o := 0) Fd29_4 Sz26)) ?_
  refine t_q rfl (fun w' H => x_ld (p := Oq ak 4) (v := .agg #[I ag, I ah]) rfl (ldb_ag (ds := [I ag, I ah]) Ag26 Sz26 (H.bl 1) rfl rfl)) ?_
  refine t_l2 rfl rfl ?_ ?_
  ·skip
   obtain ⟨dm, bO, hM⟩ := M.e_bind hM
   refine s_call cf9 [az] rfl (zae aR (bE.app _) bF bO _ (H.gt 2)) ?_
   rintro vq dp ⟨r2, ai, bP, hvq, ae⟩
   subst bP
   subst vq
   try dsimp only at hM
   replace H := H.bk ae
   clear ae
   have aV := Sl.cells (H.os 0)
   have dq := Sl.oc (H.os 0)
   refine s_nil ⟨(H.pk [1, 2]), ?_⟩
   refine t_l2 rfl rfl ?_ ?_
   ·skip
    obtain ⟨dr, bQ, hM⟩ := M.e_bind hM
    refine s_call cf44 [ay] rfl (za0 aK (bh.app _) bi bQ _ (H.gt 3)) ?_
    rintro vq dt ⟨r3, ac, bR, hvq, ae⟩
    subst bR
    subst vq
    try dsimp only at hM
    replace H := H.bk ae
    clear ae
    have bj := Sl.cells (H.os 0)
    have du := Sl.oc (H.os 0)
    refine s_nil ⟨(H.pk [2, 3]), ?_⟩
    refine t_l2 rfl rfl ?_ ?_
    ·skip
     obtain ⟨dv, bS, hM⟩ := M.e_bind hM
     refine s_call cf9 [ax] rfl (zae aI (aS.app _) aT bS _ (H.gt 4)) ?_
     rintro vq dw ⟨r4, ab, bT, hvq, ae⟩
     subst bT
     subst vq
     try dsimp only at hM
     replace H := H.bk ae
     clear ae
     have bH := Sl.cells (H.os 0)
     have dx := Sl.oc (H.os 0)
     refine s_nil ⟨(H.pk [3, 4]), ?_⟩
     refine t_l2 rfl rfl ?_ ?_
     ·skip
      obtain ⟨dy, bU, hM⟩ := M.e_bind hM
      refine s_call cf45 [aw] rfl (zbe aB (aL.app _) aM bU _ (H.gt 5)) ?_
      rintro vq dz ⟨r5, aa, bV, hvq, ae⟩
      subst bV
      subst vq
      try dsimp only at hM
      replace H := H.bk ae
      clear ae
      have bW := Sl.cells (H.os 0)
      have dA := Sl.oc (H.os 0)
      refine s_nil ⟨(H.pk [4, 5]), ?_⟩
      refine t_q rfl (fun w' H => x_bld (ps := [(0, ai), (1, ac), (2, ab), (3, aa), (4, .agg #[I ag, I ah])]) (zs := [.slice none 0 0, .slice none 0 0, .slice none 0 0, .slice none 0 0, I 0, I 0, .slice none 0 0]) (L' := [ai, ac, ab, aa, I ag, I ah, .slice none 0 0]) rfl Tryz.underlying29 Al29 rfl (Bd29 Tryz.underlying29) (.cons (cs := [ai]) aV rfl rfl rfl rfl <| .cons (cs := [ac]) bj rfl rfl rfl rfl <| .cons (cs := [ab]) bH rfl rfl rfl rfl <| .cons (cs := [aa]) bW rfl rfl rfl rfl <| .cons (cs := [I ag, I ah]) rfl rfl rfl rfl rfl <| .nil)) ?_
      refine t_l rfl ?_
      refine t_alloc (cs := [.slice none 0 0, .slice none 0 0, .slice none 0 0, .slice none 0 0, I 0, I 0, .slice none 0 0]) H Al29 rfl ?_
      intro am dB H
      refine s_nil ⟨(H.pk [5, 6]), ?_⟩
      refine t_l rfl ?_
      refine t_sw 0 0 [ai, ac, ab, aa, I ag, I ah, .slice none 0 0] (.agg #[ai, ac, ab, aa, I ag, I ah, .slice none 0 0]) H rfl rfl Sz29 rfl rfl rfl (by simp only [List.all_cons, List.all_nil, Bool.true_and, Bool.and_true, Sl.oc (H.os 4), Sl.oc (H.os 3), Sl.oc (H.os 2), Sl.oc (H.os 1)]; try rfl) ?_
      intro dC H
      refine s_nil ⟨(H.pk [5, 6]), ?_⟩
      refine t_nil ?_
      exact ⟨am, r2, r3, r4, r5, ai, ac, ab, aa, _, upds_of _ _ ⟨rfl, rfl, rfl, trivial⟩, hM, H⟩
     skip
     refine t_alloc (cs := [.slice none 0 0, .slice none 0 0, .slice none 0 0, .slice none 0 0, I 0, I 0, .slice none 0 0]) H Al29 rfl ?_
     intro am dD H
     refine s_nil ⟨(H.pk [4, 5]), ?_⟩
     refine t_l rfl ?_
     obtain ⟨dE, bX, hM⟩ := M.e_bind hM
     refine s_call cf45 [aw] rfl (zbe aB (aL.app _) aM bX _ (H.gt 6)) ?_
     rintro vq dF ⟨r5, aa, bY, hvq, ae⟩
     subst bY
     subst vq
     try dsimp only at hM
     replace H := H.bk ae
     clear ae
     have bZ := Sl.cells (H.os 0)
     have dG := Sl.oc (H.os 0)
     refine s_nil ⟨(H.pk [5, 6]), ?_⟩
     refine t_q rfl (fun w' H => x_bld (ps := [(0, ai), (1, ac), (2, ab), (3, aa), (4, .agg #[I ag, I ah])]) (zs := [.slice none 0 0, .slice none 0 0, .slice none 0 0, .slice none 0 0, I 0, I 0, .slice none 0 0]) (L' := [ai, ac, ab, aa, I ag, I ah, .slice none 0 0]) rfl Tryz.underlying29 Al29 rfl (Bd29 Tryz.underlying29) (.cons (cs := [ai]) aV rfl rfl rfl rfl <| .cons (cs := [ac]) bj rfl rfl rfl rfl <| .cons (cs := [ab]) bH rfl rfl rfl rfl <| .cons (cs := [aa]) bZ rfl rfl rfl rfl <| .cons (cs := [I ag, I ah]) rfl rfl rfl rfl rfl <| .nil)) ?_
     refine t_l rfl ?_
     refine t_sw 1 0 [ai, ac, ab, aa, I ag, I ah, .slice none 0 0] (.agg #[ai, ac, ab, aa, I ag, I ah, .slice none 0 0]) H rfl rfl Sz29 rfl rfl rfl (by simp only [List.all_cons, List.all_nil, Bool.true_and, Bool.and_true, Sl.oc (H.os 4), Sl.oc (H.os 3), Sl.oc (H.os 2), Sl.oc (H.os 0)]; try rfl) ?_
     intro dH H
     refine s_nil ⟨(H.pk [5, 6]), ?_⟩
     refine t_nil ?_
     exact ⟨am, r2, r3, r4, r5, ai, ac, ab, aa, _, upds_of _ _ ⟨rfl, rfl, rfl, trivial⟩, hM, (H.pk [1, 0, 2, 3, 4, 5, 6])⟩
    skip
    refine t_alloc (cs := [.slice none 0 0, .slice none 0 0, .slice none 0 0, .slice none 0 0, I 0, I 0, .slice none 0 0]) H Al29 rfl ?_
    intro am dI H
    refine s_nil ⟨(H.pk [3, 4]), ?_⟩
    refine t_l rfl ?_
    obtain ⟨dJ, b3, hM⟩ := M.e_bind hM
    refine s_call cf9 [ax] rfl (zae aI (aS.app _) aT b3 _ (H.gt 5)) ?_
    rintro vq dK ⟨r4, ab, b4, hvq, ae⟩
    subst b4
    subst vq
    try dsimp only at hM
    replace H := H.bk ae
    clear ae
    have b5 := Sl.cells (H.os 0)
    have dL := Sl.oc (H.os 0)
    refine s_nil ⟨(H.pk [4, 5]), ?_⟩
    refine t_l rfl ?_
    obtain ⟨dM, b6, hM⟩ := M.e_bind hM
    refine s_call cf45 [aw] rfl (zbe aB (aL.app _) aM b6 _ (H.gt 6)) ?_
    rintro vq dN ⟨r5, aa, b7, hvq, ae⟩
    subst b7
    subst vq
    try dsimp only at hM
    replace H := H.bk ae
    clear ae
    have b8 := Sl.cells (H.os 0)
    have dO := Sl.oc (H.os 0)
    refine s_nil ⟨(H.pk [5, 6]), ?_⟩
    refine t_q rfl (fun w' H => x_bld (ps := [(0, ai), (1, ac), (2, ab), (3, aa), (4, .agg #[I ag, I ah])]) (zs := [.slice none 0 0, .slice none 0 0, .slice none 0 0, .slice none 0 0, I 0, I 0, .slice none 0 0]) (L' := [ai, ac, ab, aa, I ag, I ah, .slice none 0 0]) rfl Tryz.underlying29 Al29 rfl (Bd29 Tryz.underlying29) (.cons (cs := [ai]) aV rfl rfl rfl rfl <| .cons (cs := [ac]) bj rfl rfl rfl rfl <| .cons (cs := [ab]) b5 rfl rfl rfl rfl <| .cons (cs := [aa]) b8 rfl rfl rfl rfl <| .cons (cs := [I ag, I ah]) rfl rfl rfl rfl rfl <| .nil)) ?_
    refine t_l rfl ?_
    refine t_sw 2 0 [ai, ac, ab, aa, I ag, I ah, .slice none 0 0] (.agg #[ai, ac, ab, aa, I ag, I ah, .slice none 0 0]) H rfl rfl Sz29 rfl rfl rfl (by simp only [List.all_cons, List.all_nil, Bool.true_and, Bool.and_true, Sl.oc (H.os 4), Sl.oc (H.os 3), Sl.oc (H.os 1), Sl.oc (H.os 0)]; try rfl) ?_
    intro dP H
    refine s_nil ⟨(H.pk [5, 6]), ?_⟩
    refine t_nil ?_
    exact ⟨am, r2, r3, r4, r5, ai, ac, ab, aa, _, upds_of _ _ ⟨rfl, rfl, rfl, trivial⟩, hM, (H.pk [2, 0, 1, 3, 4, 5, 6])⟩
   skip
   refine t_alloc (cs := [.slice none 0 0, .slice none 0 0, .slice none 0 0, .slice none 0 0, I 0, I 0, .slice none 0 0]) H Al29 rfl ?_
   intro am dQ H
   refine s_nil ⟨(H.pk [2, 3]), ?_⟩
   refine t_l rfl ?_
   obtain ⟨dR, b9, hM⟩ := M.e_bind hM
   refine s_call cf44 [ay] rfl (za0 aK (bh.app _) bi b9 _ (H.gt 4)) ?_
   rintro vq dS ⟨r3, ac, ca, hvq, ae⟩
   subst ca
   subst vq
   try dsimp only at hM
   replace H := H.bk ae
   clear ae
   have cb := Sl.cells (H.os 0)
   have dT := Sl.oc (H.os 0)
   refine s_nil ⟨(H.pk [3, 4]), ?_⟩
   refine t_l rfl ?_
   obtain ⟨dU, cc, hM⟩ := M.e_bind hM
   refine s_call cf9 [ax] rfl (zae aI (aS.app _) aT cc _ (H.gt 5)) ?_
   rintro vq dV ⟨r4, ab, ce, hvq, ae⟩
   subst ce
   subst vq
   try dsimp only at hM
   replace H := H.bk ae
   clear ae
   have cf := Sl.cells (H.os 0)
   have dW := Sl.oc (H.os 0)
   refine s_nil ⟨(H.pk [4, 5]), ?_⟩
   refine t_l rfl ?_
   obtain ⟨dX, cg, hM⟩ := M.e_bind hM
   refine s_call cf45 [aw] rfl (zbe aB (aL.app _) aM cg _ (H.gt 6)) ?_
   rintro vq dY ⟨r5, aa, ci, hvq, ae⟩
   subst ci
   subst vq
   try dsimp only at hM
   replace H := H.bk ae
   clear ae
   have cj := Sl.cells (H.os 0)
   have dZ := Sl.oc (H.os 0)
   refine s_nil ⟨(H.pk [5, 6]), ?_⟩
   refine t_q rfl (fun w' H => x_bld (ps := [(0, ai), (1, ac), (2, ab), (3, aa), (4, .agg #[I ag, I ah])]) (zs := [.slice none 0 0, .slice none 0 0, .slice none 0 0, .slice none 0 0, I 0, I 0, .slice none 0 0]) (L' := [ai, ac, ab, aa, I ag, I ah, .slice none 0 0]) rfl Tryz.underlying29 Al29 rfl (Bd29 Tryz.underlying29) (.cons (cs := [ai]) aV rfl rfl rfl rfl <| .cons (cs := [ac]) cb rfl rfl rfl rfl <| .cons (cs := [ab]) cf rfl rfl rfl rfl <| .cons (cs := [aa]) cj rfl rfl rfl rfl <| .cons (cs := [I ag, I ah]) rfl rfl rfl rfl rfl <| .nil)) ?_
   refine t_l rfl ?_
   refine t_sw 3 0 [ai, ac, ab, aa, I ag, I ah, .slice none 0 0] (.agg #[ai, ac, ab, aa, I ag, I ah, .slice none 0 0]) H rfl rfl Sz29 rfl rfl rfl (by simp only [List.all_cons, List.all_nil, Bool.true_and, Bool.and_true, Sl.oc (H.os 4), Sl.oc (H.os 2), Sl.oc (H.os 1), Sl.oc (H.os 0)]; try rfl) ?_
   intro d6 H
   refine s_nil ⟨(H.pk [5, 6]), ?_⟩
   refine t_nil ?_
   exact ⟨am, r2, r3, r4, r5, ai, ac, ab, aa, _, upds_of _ _ ⟨rfl, rfl, rfl, trivial⟩, hM, (H.pk [3, 0, 1, 2, 4, 5, 6])⟩
  skip
  refine t_alloc (cs := [.slice none 0 0, .slice none 0 0, .slice none 0 0, .slice none 0 0, I 0, I 0, .slice none 0 0]) H Al29 rfl ?_
  intro am d7 H
  refine s_nil ⟨(H.pk [1, 2]), ?_⟩
  refine t_l rfl ?_
  obtain ⟨d8, ck, hM⟩ := M.e_bind hM
  refine s_call cf9 [az] rfl (zae aR (bE.app _) bF ck _ (H.gt 3)) ?_
  rintro vq d9 ⟨r2, ai, cl, hvq, ae⟩
  subst cl
  subst vq
  try dsimp only at hM
  replace H := H.bk ae
  clear ae
  have cm := Sl.cells (H.os 0)
  have ea := Sl.oc (H.os 0)
  refine s_nil ⟨(H.pk [2, 3]), ?_⟩
  refine t_l rfl ?_
  obtain ⟨eb, cn, hM⟩ := M.e_bind hM
  refine s_call cf44 [ay] rfl (za0 aK (bh.app _) bi cn _ (H.gt 4)) ?_
  rintro vq ec ⟨r3, ac, co, hvq, ae⟩
  subst co
  subst vq
  try dsimp only at hM
  replace H := H.bk ae
  clear ae
  have cp := Sl.cells (H.os 0)
  have ed := Sl.oc (H.os 0)
  refine s_nil ⟨(H.pk [3, 4]), ?_⟩
  refine t_l rfl ?_
  obtain ⟨ee, cq, hM⟩ := M.e_bind hM
  refine s_call cf9 [ax] rfl (zae aI (aS.app _) aT cq _ (H.gt 5)) ?_
  rintro vq ef ⟨r4, ab, cr, hvq, ae⟩
  subst cr
  subst vq
  try dsimp only at hM
  replace H := H.bk ae
  clear ae
  have cu := Sl.cells (H.os 0)
  have eg := Sl.oc (H.os 0)
  refine s_nil ⟨(H.pk [4, 5]), ?_⟩
  refine t_l rfl ?_
  obtain ⟨eh, cv, hM⟩ := M.e_bind hM
  refine s_call cf45 [aw] rfl (zbe aB (aL.app _) aM cv _ (H.gt 6)) ?_
  rintro vq ei ⟨r5, aa, cw, hvq, ae⟩
  subst cw
  subst vq
  try dsimp only at hM
  replace H := H.bk ae
  clear ae
  have cx := Sl.cells (H.os 0)
  have ej := Sl.oc (H.os 0)
  refine s_nil ⟨(H.pk [5, 6]), ?_⟩
  refine t_q rfl (fun w' H => x_bld (ps := [(0, ai), (1, ac), (2, ab), (3, aa), (4, .agg #[I ag, I ah])]) (zs := [.slice none 0 0, .slice none 0 0, .slice none 0 0, .slice none 0 0, I 0, I 0, .slice none 0 0]) (L' := [ai, ac, ab, aa, I ag, I ah, .slice none 0 0]) rfl Tryz.underlying29 Al29 rfl (Bd29 Tryz.underlying29) (.cons (cs := [ai]) cm rfl rfl rfl rfl <| .cons (cs := [ac]) cp rfl rfl rfl rfl <| .cons (cs := [ab]) cu rfl rfl rfl rfl <| .cons (cs := [aa]) cx rfl rfl rfl rfl <| .cons (cs := [I ag, I ah]) rfl rfl rfl rfl rfl <| .nil)) ?_
  refine t_l rfl ?_
  refine t_sw 4 0 [ai, ac, ab, aa, I ag, I ah, .slice none 0 0] (.agg #[ai, ac, ab, aa, I ag, I ah, .slice none 0 0]) H rfl rfl Sz29 rfl rfl rfl (by simp only [List.all_cons, List.all_nil, Bool.true_and, Bool.and_true, Sl.oc (H.os 3), Sl.oc (H.os 2), Sl.oc (H.os 1), Sl.oc (H.os 0)]; try rfl) ?_
  intro el H
  refine s_nil ⟨(H.pk [5, 6]), ?_⟩
  refine t_nil ?_
  exact ⟨am, r2, r3, r4, r5, ai, ac, ab, aa, _, upds_of _ _ ⟨rfl, rfl, rfl, trivial⟩, hM, (H.pk [4, 0, 1, 2, 3, 5, 6])⟩
 rintro _ em ⟨am, r2, r3, r4, r5, ai, ac, ab, aa, ρ, rfl, hM, H⟩
 unfold zb4 at hM
 refine W.seq ?_
 refine W.seq ?_
 refine W.region rfl ?_
 refine zA (I 0) rfl ?_
 refine s_nil ?_
 refine W.block ?_
 obtain ⟨bI, H⟩ := H.emptyE
 replace H := H.nilOwn (α := Raw 1) 85
 have cy : RepR (α := Flood) (n := 1) bI.cells [] [] := .nil
 obtain ⟨cz, bm, cA⟩ := M.e_bind hM
 obtain ⟨en, bm⟩ := M.e_iter bm
 refine W.loop (fun m σ W => ∃ (i : Nat) (l : List Flood) (av : Value) (au : List (Raw 1)) (B_l : Base) (ρ : Env), σ = upds ρ [(1, Pq ak), (2, Pq aJ), (3, Pq am), (4, I (i : Int))] /\ M.iterN (zbC aj) m (i, l) = some cz /\ St w W [cOwn (α := Raw 1) 85 av au, cRo B_l, cBlk am [ai, ac, ab, aa, I ag, I ah, av] 29, cOwn (α := Town) 91 aa r5, cOwn (α := Int) 3 ab r4, cOwn (α := Span) 26 ac r3, cOwn (α := Int) 3 ai r2, cBlk aJ [.slice none 0 0, .slice none 0 0, .slice none 0 0, .slice none 0 0, I 0, I 0, .slice none 0 0] 29, cBlk ak [az, ay, ax, aw, I ag, I ah, ap] 29] R /\ RepR (α := Flood) B_l.cells au l) ?_ ?_
 ·exact ⟨_, 0, [], (.slice none 0 0), [], bI, _, upds_of _ _ ⟨rfl, rfl, rfl, rfl, trivial⟩, bm, H, cy⟩
 rintro eo σ ep ⟨i, l, av, au, B_l, ρ, rfl, bJ, H, aq⟩
 obtain ⟨aW, aX, eq, hM, aO⟩ := M.e_iterN bJ
 simp only [zbC] at hM
 clear bJ
 refine W.seq ?_
 refine W.seq ?_
 refine W.region rfl ?_
 refine zM (I (i : Int)) rfl ?_
 refine s_val (x_fa (a := Pq ak) (v := Oq ak 6) rfl (fa_blk (o := 0) Fd29_5 Sz27)) ?_
 refine s_val (x_ld (p := Oq ak 6) (v := ap) rfl (ldb_sc Sc27 (H.bl 8) rfl)) ?_
 have er := (aA).len_le
 refine s_val (x_lenS T27.und rfl aA) ?_
 refine zC (i : Int) (aj.length : Int) (decide ((i : Int) < (aj.length : Int))) rfl rfl rfl ?_
 refine s_nil ?_
 refine W.cond (decide ((i : Int) < (aj.length : Int))) rfl (fun aP => ?_) (fun aP => ?_)
 ·replace hM := M.e_t hM aP
  simp only [qy1, qy2, qy3, qy4, qy5, qy6, ne_eq, qy7] at aP
  refine W.skip ?_
  refine W.seq ?_
  refine W.block ?_
  refine W.drawT (fun W => St w W [cRo B_l, cOwn (α := Town) 91 aa r5, cOwn (α := Int) 3 ab r4, cOwn (α := Span) 26 ac r3, cOwn (α := Int) 3 ai r2, cBlk aJ [.slice none 0 0, .slice none 0 0, .slice none 0 0, .slice none 0 0, I 0, I 0, .slice none 0 0] 29, cBlk ak [az, ay, ax, aw, I ag, I ah, ap] 29] R) (.q 0 (.q 2 (.q 3 (.q 4 (.q 5 (.q 6 (.q 7 (.q 8 (.q 9 (.q 10 (.q 11 (.q 12 (.q 13 (.l2 1 (.l 14 (.l 15 (.l 16 (.l 17 (.q 18 (.l 19 .nil)))))) 14 (.l2 1 (.l 15 (.l 16 (.l 17 (.q 18 (.l 19 .nil))))) 15 (.l2 1 (.l 16 (.l 17 (.q 18 (.l 19 .nil)))) 16 (.l 1 (.l 17 (.q 18 (.l 19 .nil)))))))))))))))))))) mixed (by decide +kernel) rfl ?_
  intro eu aN
  replace H := H.ext aN
  clear aN
  refine ⟨(H.pk [1, 3, 4, 5, 6, 7, 8]), ?_⟩
  refine t_q rfl (fun w' H => x_fa (a := Pq am) (v := Oq am 6) rfl (fa_blk (o := 0) Fd29_5 Sz27)) ?_
  refine t_q rfl (fun w' H => x_fa (a := Pq ak) (v := Oq ak 6) rfl (fa_blk (o := 0) Fd29_5 Sz27)) ?_
  refine t_q rfl (fun w' H => x_ld (p := Oq ak 6) (v := ap) rfl (ldb_sc Sc27 (H.bl 6) rfl)) ?_
  refine t_q rfl (fun w' H => x_mv (v := I (i : Int)) rfl) ?_
  obtain ⟨cB, hM⟩ := M.e_grd hM
  simp only [Bool.and_eq_true, decide_eq_true_eq] at cB
  refine t_q rfl (fun w' H => x_ix (a := ap) (b := I (i : Int)) (v := vat ap 2 (Int.toNat (i : Int))) rfl rfl (Sl.ix (α := Flood) T27.und T27.size aA (by omega) (by omega))) ?_
  refine t_q rfl (fun w' H => x_fa (a := vat ap 2 (Int.toNat (i : Int))) (v := fat (vat ap 2 (Int.toNat (i : Int))) 0) rfl (fa_pl Fd85_0 Sz3 (Sl.pl (i := (i : Int)) aA (by omega) (by omega)))) ?_
  refine t_q rfl (fun w' H => x_ld (p := fat (vat ap 2 (Int.toNat (i : Int))) 0) (v := I ((aj.getD i default).spring)) rfl (ld_sc Sc3 (At.mono (Flood_at0 aA (i := (i : Int)) (by omega) (by omega)) (aU.at H)))) ?_
  refine t_q rfl (fun w' H => x_fa (a := Pq ak) (v := Oq ak 6) rfl (fa_blk (o := 0) Fd29_5 Sz27)) ?_
  refine t_q rfl (fun w' H => x_ld (p := Oq ak 6) (v := ap) rfl (ldb_sc Sc27 (H.bl 6) rfl)) ?_
  refine t_q rfl (fun w' H => x_mv (v := I (i : Int)) rfl) ?_
  refine t_q rfl (fun w' H => x_ix (a := ap) (b := I (i : Int)) (v := vat ap 2 (Int.toNat (i : Int))) rfl rfl (Sl.ix (α := Flood) T27.und T27.size aA (by omega) (by omega))) ?_
  refine t_q rfl (fun w' H => x_fa (a := vat ap 2 (Int.toNat (i : Int))) (v := fat (vat ap 2 (Int.toNat (i : Int))) 1) rfl (fa_pl Fd85_1 Sz22 (Sl.pl (i := (i : Int)) aA (by omega) (by omega)))) ?_
  obtain ⟨aY, cC, aQ⟩ := Flood_at1 aA (i := (i : Int)) (by omega) (by omega)
  replace aQ : Sl _ aY (aj.getD i default).stages := aQ
  have ew := aQ.len_le
  refine t_q rfl (fun w' H => x_ld (p := fat (vat ap 2 (Int.toNat (i : Int))) 1) (v := aY) rfl (ld_sc Sc22 (At.mono (cC) (aU.at H)))) ?_
  refine t_l2 rfl rfl ?_ ?_
  ·skip
   refine s_val (x_ld (p := Oq am 6) (v := av) rfl (ldb_sc Sc27 (H.bl 2) rfl)) ?_
   have ey := Sl.cells (H.os 0)
   have ez := Sl.oc (H.os 0)
   refine s_nil ⟨(H.pk [1, 3, 4, 5, 6, 7, 8]), ?_⟩
   refine t_l rfl ?_
   obtain ⟨eA, cD, hM⟩ := M.e_bind hM
   refine s_call cf9 [aY] rfl (zae ((aj.getD i default).stages) (aU.app _) aQ cD _ (H.gt 9)) ?_
   rintro vq eB ⟨r6, ao, cE, hvq, ae⟩
   subst cE
   subst vq
   try dsimp only at hM
   replace H := H.bk ae
   clear ae
   have eC := Sl.cells (H.os 0)
   have eD := Sl.oc (H.os 0)
   refine s_nil ⟨(H.pk [2, 4, 5, 6, 7, 8, 9]), ?_⟩
   refine t_l rfl ?_
   refine s_val (x_bld (ps := [(0, I ((aj.getD i default).spring)), (1, ao)]) (zs := [I 0, .slice none 0 0]) (L' := [I ((aj.getD i default).spring), ao]) rfl Tryz.underlying85 Al85 rfl (Bd85 Tryz.underlying85) (.cons (cs := [I ((aj.getD i default).spring)]) rfl rfl rfl rfl rfl <| .cons (cs := [ao]) (Sl.cells (H.os 0)) rfl rfl rfl rfl <| .nil)) ?_
   refine s_nil ⟨(H.pk [2, 4, 5, 6, 7, 8, 9]), ?_⟩
   refine t_l rfl ?_
   obtain ⟨bn, H⟩ := H.emptyE
   obtain ⟨bo, H, cF⟩ := H.freezeE (k := 1) rfl
   replace H := H.nf
   have aZ := cF
   obtain ⟨aC, H, eE, cG⟩ := H.joinE (i := 0) (j := 1) rfl rfl
   replace aZ := aZ.mono cG
   obtain ⟨aD, bK⟩ : ∃ r : Raw 1, r.cs = [I ((aj.getD i default).spring), ao] := ⟨Raw.of [I ((aj.getD i default).spring), ao] rfl (by simp only [List.all_cons, List.all_nil, Bool.true_and, Bool.and_true, Sl.oc aZ]; try rfl), rfl⟩
   have cH : RepR (α := Flood) aC.cells [aD] [(⟨((aj.getD i default).spring : Int), r6⟩ : Flood)] := .cons (by rw [bK]; exact ⟨_, rfl, aZ⟩) <| .nil
   refine t_bs (α := Raw 1) T27 [.agg #[I ((aj.getD i default).spring), ao]] [aD] H rfl (.cons (by rw [show (Flat.enc aD : List Value) = aD.cs from rfl, bK]; rfl) (Flat.rep_enc _ _) <| .nil) rfl rfl rfl ?_
   intro cI eF H
   replace H := H.nf
   have eG := Sl.cells (H.os 0)
   have eH := Sl.oc (H.os 0)
   refine s_nil ⟨(H.pk [5, 7, 8, 9, 10, 11, 12]), ?_⟩
   refine t_l rfl ?_
   obtain ⟨cJ, hM⟩ := M.e_grd hM
   simp only [Bool.and_eq_true, decide_eq_true_eq] at cJ
   have a6 := cH
   obtain ⟨aE, H, cK, cL⟩ := H.joinE (i := 5) (j := 1) rfl rfl
   replace aq := aq.mono cK
   replace a6 := a6.mono cL
   have bp := aq.app a6
   refine t_app (α := Raw 1) (k := 5) (l := au) (l2 := [aD]) (l' := au ++ ([aD])) (vy := cI) T27 rfl H rfl rfl rfl (H.os 1) (H.ol 1) (rfl) (by have a_ := aq.len; have b_ := a6.len; (try simp only [List.length_nil] at *); first | omega | (rw [a_, b_]; omega)) ?_
   intro bq eI H
   replace H := H.nf
   have eJ := Sl.cells (H.os 5)
   have eK := Sl.oc (H.os 5)
   refine s_nil ⟨(H.pk [6, 8, 9, 10, 11, 12, 13]), ?_⟩
   refine t_q rfl (fun w' H => x_fa (a := Pq am) (v := Oq am 6) rfl (fa_blk (o := 0) Fd29_5 Sz27)) ?_
   refine t_l rfl ?_
   refine t_sw 7 6 [bq] bq H rfl rfl Sz27 (Sl.cells (rowSl rfl (H.get (k := 5) rfl) (roLe _ (H.get (k := 0) rfl)) bp)) rfl rfl (by simp only [List.all_cons, List.all_nil, Bool.true_and, Bool.and_true, Sl.oc (rowSl rfl (H.get (k := 5) rfl) (roLe _ (H.get (k := 0) rfl)) bp)]; try rfl) ?_
   intro eL H
   refine s_nil ⟨(H.pk [6, 8, 9, 10, 11, 12, 13]), ?_⟩
   refine t_nil ?_
   replace H := H.pk [0, 5, 6, 7, 8, 9, 10, 11, 12, 13]
   refine W.region rfl ?_
   refine zM (I (i : Int)) rfl ?_
   refine zR (i : Int) 1 ((i : Int) + 1) rfl rfl rfl (by omega) ?_
   refine zA (I ((i : Int) + 1)) rfl ?_
   refine s_nil ?_
   exact ⟨aW, aX, i + 1, l ++ ([(⟨((aj.getD i default).spring : Int), r6⟩ : Flood)]), bq, au ++ ([aD]), aE, _, upds_of _ _ ⟨rfl, rfl, rfl, rfl, trivial⟩, M.e_inl hM aO, (H.pk [1, 0, 3, 4, 5, 6, 7, 8, 9]), bp⟩
  skip
  obtain ⟨eM, cM, hM⟩ := M.e_bind hM
  refine s_call cf9 [aY] rfl (zae ((aj.getD i default).stages) (aU.app _) aQ cM _ (H.gt 9)) ?_
  rintro vq eN ⟨r6, ao, cN, hvq, ae⟩
  subst cN
  subst vq
  try dsimp only at hM
  replace H := H.bk ae
  clear ae
  have eO := Sl.cells (H.os 0)
  have eP := Sl.oc (H.os 0)
  have eQ := Sl.cells (H.os 1)
  have eR := Sl.oc (H.os 1)
  refine s_nil ⟨(H.pk [2, 4, 5, 6, 7, 8, 9]), ?_⟩
  obtain ⟨cO, hM⟩ := M.e_grd hM
  simp only [Bool.and_eq_true, decide_eq_true_eq] at cO
  refine t_l2 rfl rfl ?_ ?_
  ·skip
   refine s_val (x_ld (p := Oq am 6) (v := av) rfl (ldb_sc Sc27 (H.bl 3) rfl)) ?_
   refine s_nil ⟨(H.pk [2, 4, 5, 6, 7, 8, 9]), ?_⟩
   refine t_l rfl ?_
   refine s_val (x_bld (ps := [(0, I ((aj.getD i default).spring)), (1, ao)]) (zs := [I 0, .slice none 0 0]) (L' := [I ((aj.getD i default).spring), ao]) rfl Tryz.underlying85 Al85 rfl (Bd85 Tryz.underlying85) (.cons (cs := [I ((aj.getD i default).spring)]) rfl rfl rfl rfl rfl <| .cons (cs := [ao]) (Sl.cells (H.os 0)) rfl rfl rfl rfl <| .nil)) ?_
   refine s_nil ⟨(H.pk [2, 4, 5, 6, 7, 8, 9]), ?_⟩
   refine t_l rfl ?_
   obtain ⟨bn, H⟩ := H.emptyE
   obtain ⟨bo, H, cP⟩ := H.freezeE (k := 1) rfl
   replace H := H.nf
   have a7 := cP
   obtain ⟨aC, H, eS, cQ⟩ := H.joinE (i := 0) (j := 1) rfl rfl
   replace a7 := a7.mono cQ
   obtain ⟨aF, bL⟩ : ∃ r : Raw 1, r.cs = [I ((aj.getD i default).spring), ao] := ⟨Raw.of [I ((aj.getD i default).spring), ao] rfl (by simp only [List.all_cons, List.all_nil, Bool.true_and, Bool.and_true, Sl.oc a7]; try rfl), rfl⟩
   have cR : RepR (α := Flood) aC.cells [aF] [(⟨((aj.getD i default).spring : Int), r6⟩ : Flood)] := .cons (by rw [bL]; exact ⟨_, rfl, a7⟩) <| .nil
   refine t_bs (α := Raw 1) T27 [.agg #[I ((aj.getD i default).spring), ao]] [aF] H rfl (.cons (by rw [show (Flat.enc aF : List Value) = aF.cs from rfl, bL]; rfl) (Flat.rep_enc _ _) <| .nil) rfl rfl rfl ?_
   intro cS eT H
   replace H := H.nf
   have eU := Sl.cells (H.os 0)
   have eV := Sl.oc (H.os 0)
   refine s_nil ⟨(H.pk [5, 7, 8, 9, 10, 11, 12]), ?_⟩
   refine t_l rfl ?_
   have a8 := cR
   obtain ⟨aE, H, cT, cU⟩ := H.joinE (i := 5) (j := 1) rfl rfl
   replace aq := aq.mono cT
   replace a8 := a8.mono cU
   have br := aq.app a8
   refine t_app (α := Raw 1) (k := 5) (l := au) (l2 := [aF]) (l' := au ++ ([aF])) (vy := cS) T27 rfl H rfl rfl rfl (H.os 1) (H.ol 1) (rfl) (by have a_ := aq.len; have b_ := a8.len; (try simp only [List.length_nil] at *); first | omega | (rw [a_, b_]; omega)) ?_
   intro bt eW H
   replace H := H.nf
   have eX := Sl.cells (H.os 5)
   have eY := Sl.oc (H.os 5)
   refine s_nil ⟨(H.pk [6, 8, 9, 10, 11, 12, 13]), ?_⟩
   refine t_q rfl (fun w' H => x_fa (a := Pq am) (v := Oq am 6) rfl (fa_blk (o := 0) Fd29_5 Sz27)) ?_
   refine t_l rfl ?_
   refine t_sw 7 6 [bt] bt H rfl rfl Sz27 (Sl.cells (rowSl rfl (H.get (k := 5) rfl) (roLe _ (H.get (k := 0) rfl)) br)) rfl rfl (by simp only [List.all_cons, List.all_nil, Bool.true_and, Bool.and_true, Sl.oc (rowSl rfl (H.get (k := 5) rfl) (roLe _ (H.get (k := 0) rfl)) br)]; try rfl) ?_
   intro eZ H
   refine s_nil ⟨(H.pk [6, 8, 9, 10, 11, 12, 13]), ?_⟩
   refine t_nil ?_
   replace H := H.pk [0, 5, 6, 7, 8, 9, 10, 11, 12, 13]
   refine W.region rfl ?_
   refine zM (I (i : Int)) rfl ?_
   refine zR (i : Int) 1 ((i : Int) + 1) rfl rfl rfl (by omega) ?_
   refine zA (I ((i : Int) + 1)) rfl ?_
   refine s_nil ?_
   exact ⟨aW, aX, i + 1, l ++ ([(⟨((aj.getD i default).spring : Int), r6⟩ : Flood)]), bt, au ++ ([aF]), aE, _, upds_of _ _ ⟨rfl, rfl, rfl, rfl, trivial⟩, M.e_inl hM aO, (H.pk [1, 0, 3, 4, 5, 6, 7, 8, 9]), br⟩
  skip
  refine s_val (x_bld (ps := [(0, I ((aj.getD i default).spring)), (1, ao)]) (zs := [I 0, .slice none 0 0]) (L' := [I ((aj.getD i default).spring), ao]) rfl Tryz.underlying85 Al85 rfl (Bd85 Tryz.underlying85) (.cons (cs := [I ((aj.getD i default).spring)]) rfl rfl rfl rfl rfl <| .cons (cs := [ao]) (Sl.cells (H.os 0)) rfl rfl rfl rfl <| .nil)) ?_
  refine s_nil ⟨(H.pk [2, 4, 5, 6, 7, 8, 9]), ?_⟩
  refine t_l2 rfl rfl ?_ ?_
  ·skip
   refine s_val (x_ld (p := Oq am 6) (v := av) rfl (ldb_sc Sc27 (H.bl 3) rfl)) ?_
   refine s_nil ⟨(H.pk [2, 4, 5, 6, 7, 8, 9]), ?_⟩
   refine t_l rfl ?_
   obtain ⟨bn, H⟩ := H.emptyE
   obtain ⟨bo, H, cV⟩ := H.freezeE (k := 1) rfl
   replace H := H.nf
   have ba := cV
   obtain ⟨aC, H, e5, cW⟩ := H.joinE (i := 0) (j := 1) rfl rfl
   replace ba := ba.mono cW
   obtain ⟨aG, bM⟩ : ∃ r : Raw 1, r.cs = [I ((aj.getD i default).spring), ao] := ⟨Raw.of [I ((aj.getD i default).spring), ao] rfl (by simp only [List.all_cons, List.all_nil, Bool.true_and, Bool.and_true, Sl.oc ba]; try rfl), rfl⟩
   have cX : RepR (α := Flood) aC.cells [aG] [(⟨((aj.getD i default).spring : Int), r6⟩ : Flood)] := .cons (by rw [bM]; exact ⟨_, rfl, ba⟩) <| .nil
   refine t_bs (α := Raw 1) T27 [.agg #[I ((aj.getD i default).spring), ao]] [aG] H rfl (.cons (by rw [show (Flat.enc aG : List Value) = aG.cs from rfl, bM]; rfl) (Flat.rep_enc _ _) <| .nil) rfl rfl rfl ?_
   intro cY e6 H
   replace H := H.nf
   have e7 := Sl.cells (H.os 0)
   have e8 := Sl.oc (H.os 0)
   refine s_nil ⟨(H.pk [5, 7, 8, 9, 10, 11, 12]), ?_⟩
   refine t_l rfl ?_
   have bc := cX
   obtain ⟨aE, H, cZ, c6⟩ := H.joinE (i := 5) (j := 1) rfl rfl
   replace aq := aq.mono cZ
   replace bc := bc.mono c6
   have bu := aq.app bc
   refine t_app (α := Raw 1) (k := 5) (l := au) (l2 := [aG]) (l' := au ++ ([aG])) (vy := cY) T27 rfl H rfl rfl rfl (H.os 1) (H.ol 1) (rfl) (by have a_ := aq.len; have b_ := bc.len; (try simp only [List.length_nil] at *); first | omega | (rw [a_, b_]; omega)) ?_
   intro bv e9 H
   replace H := H.nf
   have fg := Sl.cells (H.os 5)
   have fh := Sl.oc (H.os 5)
   refine s_nil ⟨(H.pk [6, 8, 9, 10, 11, 12, 13]), ?_⟩
   refine t_q rfl (fun w' H => x_fa (a := Pq am) (v := Oq am 6) rfl (fa_blk (o := 0) Fd29_5 Sz27)) ?_
   refine t_l rfl ?_
   refine t_sw 7 6 [bv] bv H rfl rfl Sz27 (Sl.cells (rowSl rfl (H.get (k := 5) rfl) (roLe _ (H.get (k := 0) rfl)) bu)) rfl rfl (by simp only [List.all_cons, List.all_nil, Bool.true_and, Bool.and_true, Sl.oc (rowSl rfl (H.get (k := 5) rfl) (roLe _ (H.get (k := 0) rfl)) bu)]; try rfl) ?_
   intro fi H
   refine s_nil ⟨(H.pk [6, 8, 9, 10, 11, 12, 13]), ?_⟩
   refine t_nil ?_
   replace H := H.pk [0, 5, 6, 7, 8, 9, 10, 11, 12, 13]
   refine W.region rfl ?_
   refine zM (I (i : Int)) rfl ?_
   refine zR (i : Int) 1 ((i : Int) + 1) rfl rfl rfl (by omega) ?_
   refine zA (I ((i : Int) + 1)) rfl ?_
   refine s_nil ?_
   exact ⟨aW, aX, i + 1, l ++ ([(⟨((aj.getD i default).spring : Int), r6⟩ : Flood)]), bv, au ++ ([aG]), aE, _, upds_of _ _ ⟨rfl, rfl, rfl, rfl, trivial⟩, M.e_inl hM aO, (H.pk [1, 0, 3, 4, 5, 6, 7, 8, 9]), bu⟩
  skip
  obtain ⟨bn, H⟩ := H.emptyE
  obtain ⟨bo, H, c7⟩ := H.freezeE (k := 1) rfl
  replace H := H.nf
  have bf := c7
  obtain ⟨aC, H, fj, c8⟩ := H.joinE (i := 0) (j := 1) rfl rfl
  replace bf := bf.mono c8
  obtain ⟨aH, bN⟩ : ∃ r : Raw 1, r.cs = [I ((aj.getD i default).spring), ao] := ⟨Raw.of [I ((aj.getD i default).spring), ao] rfl (by simp only [List.all_cons, List.all_nil, Bool.true_and, Bool.and_true, Sl.oc bf]; try rfl), rfl⟩
  have c9 : RepR (α := Flood) aC.cells [aH] [(⟨((aj.getD i default).spring : Int), r6⟩ : Flood)] := .cons (by rw [bN]; exact ⟨_, rfl, bf⟩) <| .nil
  refine t_bs (α := Raw 1) T27 [.agg #[I ((aj.getD i default).spring), ao]] [aH] H rfl (.cons (by rw [show (Flat.enc aH : List Value) = aH.cs from rfl, bN]; rfl) (Flat.rep_enc _ _) <| .nil) rfl rfl rfl ?_
  intro da fk H
  replace H := H.nf
  have fm := Sl.cells (H.os 0)
  have fo := Sl.oc (H.os 0)
  refine s_nil ⟨(H.pk [5, 7, 8, 9, 10, 11, 12]), ?_⟩
  refine t_l rfl ?_
  refine s_val (x_ld (p := Oq am 6) (v := av) rfl (ldb_sc Sc27 (H.bl 6) rfl)) ?_
  refine s_nil ⟨(H.pk [5, 7, 8, 9, 10, 11, 12]), ?_⟩
  refine t_l rfl ?_
  have bg := c9
  obtain ⟨aE, H, db, dc⟩ := H.joinE (i := 5) (j := 1) rfl rfl
  replace aq := aq.mono db
  replace bg := bg.mono dc
  have bw := aq.app bg
  refine t_app (α := Raw 1) (k := 5) (l := au) (l2 := [aH]) (l' := au ++ ([aH])) (vy := da) T27 rfl H rfl rfl rfl (H.os 1) (H.ol 1) (rfl) (by have a_ := aq.len; have b_ := bg.len; (try simp only [List.length_nil] at *); first | omega | (rw [a_, b_]; omega)) ?_
  intro bx fp H
  replace H := H.nf
  have fq := Sl.cells (H.os 5)
  have fu := Sl.oc (H.os 5)
  refine s_nil ⟨(H.pk [6, 8, 9, 10, 11, 12, 13]), ?_⟩
  refine t_q rfl (fun w' H => x_fa (a := Pq am) (v := Oq am 6) rfl (fa_blk (o := 0) Fd29_5 Sz27)) ?_
  refine t_l rfl ?_
  refine t_sw 7 6 [bx] bx H rfl rfl Sz27 (Sl.cells (rowSl rfl (H.get (k := 5) rfl) (roLe _ (H.get (k := 0) rfl)) bw)) rfl rfl (by simp only [List.all_cons, List.all_nil, Bool.true_and, Bool.and_true, Sl.oc (rowSl rfl (H.get (k := 5) rfl) (roLe _ (H.get (k := 0) rfl)) bw)]; try rfl) ?_
  intro fv H
  refine s_nil ⟨(H.pk [6, 8, 9, 10, 11, 12, 13]), ?_⟩
  refine t_nil ?_
  replace H := H.pk [0, 5, 6, 7, 8, 9, 10, 11, 12, 13]
  refine W.region rfl ?_
  refine zM (I (i : Int)) rfl ?_
  refine zR (i : Int) 1 ((i : Int) + 1) rfl rfl rfl (by omega) ?_
  refine zA (I ((i : Int) + 1)) rfl ?_
  refine s_nil ?_
  exact ⟨aW, aX, i + 1, l ++ ([(⟨((aj.getD i default).spring : Int), r6⟩ : Flood)]), bx, au ++ ([aH]), aE, _, upds_of _ _ ⟨rfl, rfl, rfl, rfl, trivial⟩, M.e_inl hM aO, (H.pk [1, 0, 3, 4, 5, 6, 7, 8, 9]), bw⟩
 replace hM := M.e_f hM aP
 simp only [qy1, qy2, qy3, qy4, qy5, qy6, ne_eq, qy7] at aP
 refine W.exit ?_
 have dd := M.e_inr hM aO
 subst dd
 replace hM := cA
 try dsimp only at hM
 refine W.seq ?_
 refine W.region rfl ?_
 refine s_val (x_ld (p := Pq am) (v := .agg #[ai, ac, ab, aa, I ag, I ah, av]) rfl (ldb_ag (ds := [ai, ac, ab, aa, I ag, I ah, av]) Ag29 Sz29 (H.bl 2) rfl rfl)) ?_
 refine t_sw 7 0 [ai, ac, ab, aa, I ag, I ah, av] (.agg #[ai, ac, ab, aa, I ag, I ah, av]) H rfl rfl Sz29 rfl rfl rfl (by simp only [List.all_cons, List.all_nil, Bool.true_and, Bool.and_true, Sl.oc (H.os 6), Sl.oc (H.os 5), Sl.oc (H.os 4), Sl.oc (H.os 3), Sl.oc (rowSl rfl (H.get (k := 0) rfl) (roLe _ (H.get (k := 1) rfl)) aq)]; try rfl) ?_
 intro fw H
 refine s_nil ?_
 replace H := H.pk [0, 1, 3, 4, 5, 6, 7]
 refine W.ret ?_
 have de := (H.bl 6)
 have dg := M.e_pure hM
 exact ⟨_, (resE_of1 (v := .agg #[ai, ac, ab, aa, I ag, I ah, av]) rfl (.cell (v := .agg #[ai, ac, ab, aa, I ag, I ah, av]) rfl (run_loadVar_ag (ds := [ai, ac, ab, aa, I ag, I ah, av]) Ag29 Sz29 de rfl rfl) <| .nil)), ⟨r2, r3, r4, r5, ag, ah, l, ai, ac, ab, aa, av, au, B_l, dg, rfl, (H.pk [5, 4, 3, 2, 0, 1]), aq⟩⟩

def zbp (aa : List Town) : (Nat × (List Town)) -> M ((Nat × (List Town)) ⊕ ((List Town) × (List Town))) := fun (i, l) =>
  bif decide ((i : Int) < (aa.length : Int)) then (
  M.grd (decide ((i : Int) < (aa.length : Int))) <|
  M.grd (decide ((l.length + ([(aa.getD i default)]).length) * 24 <= 140737488355328)) <|
  M.pure (.inl (i + 1, l ++ ([(aa.getD i default)]))))
  else (
  M.pure (.inr (l, l)))
def zbf (aa : List Flood) : (Nat × (List Flood)) -> M ((Nat × (List Flood)) ⊕ ((List Flood) × (List Flood))) := fun (i2, l4) =>
  bif decide ((i2 : Int) < (aa.length : Int)) then (
  M.grd (decide ((i2 : Int) < (aa.length : Int))) <|
  M.grd (decide ((l4.length + ([(aa.getD i2 default)]).length) * 32 <= 140737488355328)) <|
  M.pure (.inl (i2 + 1, l4 ++ ([(aa.getD i2 default)]))))
  else (
  M.pure (.inr (l4, l4)))
def zca (aa : List Town) (ab : Int) (ac : Int) (ae : List Flood) (r2 : List Int) (r3 : List Span) (r4 : List Int) : M ((List Int) × (List Span) × (List Int) × (List Town) × Int × Int × (List Flood)) :=
  M.bind (M.iter (zbp aa) (0, [])) fun (l2, l3) =>
  M.bind (M.iter (zbf ae) (0, [])) fun (l5, l6) =>
  M.pure (r2, r3, r4, l3, ab, ac, l6)
def zb2 (aa : List Int) (ab : List Span) (ac : List Int) (ae : List Town) (ag : Int) (ah : Int) (ai : List Flood) : M ((List Int) × (List Span) × (List Int) × (List Town) × Int × Int × (List Flood)) :=
  M.bind (zav aa) fun r2 =>
  M.bind (zbZ ab) fun r3 =>
  M.bind (zav ac) fun r4 =>
  zca ae ag ah ai r2 r3 r4
theorem zdu {R : List Chunk} {bn : Cells} {aw : Value} {bo : Cells} {av : Value} {bp : Cells} {ap : Value} {bq : Cells} {aq : Value} {aG : Cells} {au : Value} (aN : List Int) (aI : List Span) (aH : List Int) (aj : List Town) (ab : Int) (ac : Int) (am : List Flood) (br : Reads R bn) (bt : Sl bn aw aN) (aW : Reads R bo) (aX : Sl bo av aI) (aO : Reads R bp) (aP : Sl bp ap aH) (bG : Reads R bq) (aQ : Sl bq aq aj) (ay : Reads R aG) (aR : Sl aG au am) {r : ((List Int) × (List Span) × (List Int) × (List Town) × Int × Int × (List Flood))} (hM : (zb2 aN aI aH aj ab ac am).Ends r) (w : World) (H : St w w [] R) : Ret Tryz.prog 10 #[.agg #[aw, av, ap, aq, I ab, I ac, au]] w fun v w' => ∃ (y0 : List Int) (y1 : List Span) (y2 : List Int) (y3 : List Town) (y4 : Int) (y5 : Int) (y6 : List Flood) (u0 : Value) (u1 : Value) (u2 : Value) (u3 : Value) (u4 : Value) (rr5 : List (Raw 1)) (bu : Base), (y0, y1, y2, y3, y4, y5, y6) = r /\ v = .agg #[u0, u1, u2, u3, I y4, I y5, u4] /\ St w w' [cOwn (α := Int) 3 u0 y0, cOwn (α := Span) 26 u1 y1, cOwn (α := Int) 3 u2 y2, cOwn (α := Town) 92 u3 y3, cOwn (α := Raw 1) 93 u4 rr5, cRo bu] R /\ RepR (α := Flood) (Cells.sup aG bu.cells) rr5 y6 := by
 refine ret_of_W Tryz.func10 rfl rfl rfl ?_
 refine W.seq ?_
 refine W.region rfl ?_
 refine t_box (v := .agg #[aw, av, ap, aq, I ab, I ac, au]) (cs := [aw, av, ap, aq, I ab, I ac, au]) H rfl rfl ?_
 intro ah cB H
 refine t_alloc (cs := [.slice none 0 0, .slice none 0 0, .slice none 0 0, .slice none 0 0, I 0, I 0, .slice none 0 0]) H Al37 rfl ?_
 intro aB cC H
 refine s_nil ?_
 refine W.seqJ (fun σ W => ∃ (ai : Nat) (r2 : List Int) (r3 : List Span) (r4 : List Int) (ag : Value) (ae : Value) (aa : Value) (ρ : Env), σ = upds ρ [(1, Pq ah), (2, Pq aB), (3, Pq ai)] /\ (zca aj ab ac am r2 r3 r4).Ends r /\ St w W [cBlk ai [ag, ae, aa, .slice none 0 0, I ab, I ac, .slice none 0 0] 37, cOwn (α := Int) 3 aa r4, cOwn (α := Span) 26 ae r3, cOwn (α := Int) 3 ag r2, cBlk aB [.slice none 0 0, .slice none 0 0, .slice none 0 0, .slice none 0 0, I 0, I 0, .slice none 0 0] 37, cBlk ah [aw, av, ap, aq, I ab, I ac, au] 29] R) ?_ ?_
 ·skip
  refine W.drawT (fun W => St w W [cBlk aB [.slice none 0 0, .slice none 0 0, .slice none 0 0, .slice none 0 0, I 0, I 0, .slice none 0 0] 37, cBlk ah [aw, av, ap, aq, I ab, I ac, au] 29] R) (.q 0 (.q 1 (.q 3 (.q 4 (.q 6 (.q 7 (.q 9 (.q 10 (.l2 2 (.l2 5 (.l2 8 (.q 11 (.l 12 (.l 13 .nil))) 12 (.l 8 (.q 11 (.l 13 .nil)))) 12 (.l 5 (.l 8 (.q 11 (.l 13 .nil))))) 12 (.l 2 (.l 5 (.l 8 (.q 11 (.l 13 .nil)))))))))))))) mixed (by decide +kernel) rfl ?_
  intro cD aC
  replace H := H.ext aC
  clear aC
  refine ⟨(H.pk [0, 1]), ?_⟩
  refine t_q rfl (fun w' H => x_fa (a := Pq ah) (v := Pq ah) rfl (fa_blk (o := 0) Fd29_0 Sz22)) ?_
  refine t_q rfl (fun w' H => x_ld (p := Pq ah) (v := aw) rfl (ldb_sc Sc22 (H.bl 1) rfl)) ?_
  refine t_q rfl (fun w' H => x_fa (a := Pq ah) (v := Oq ah 1) rfl (fa_blk (o := 0) Fd29_1 Sz23)) ?_
  refine t_q rfl (fun w' H => x_ld (p := Oq ah 1) (v := av) rfl (ldb_sc Sc23 (H.bl 1) rfl)) ?_
  refine t_q rfl (fun w' H => x_fa (a := Pq ah) (v := Oq ah 2) rfl (fa_blk (o := 0) Fd29_2 Sz22)) ?_
  refine t_q rfl (fun w' H => x_ld (p := Oq ah 2) (v := ap) rfl (ldb_sc Sc22 (H.bl 1) rfl)) ?_
  refine t_q rfl (fun w' H => x_fa (a := Pq ah) (v := Oq ah 4) rfl (fa_blk (o := 0) Fd29_4 Sz26)) ?_
  refine t_q rfl (fun w' H => x_ld (p := Oq ah 4) (v := .agg #[I ab, I ac]) rfl (ldb_ag (ds := [I ab, I ac]) Ag26 Sz26 (H.bl 1) rfl rfl)) ?_
  refine t_l2 rfl rfl ?_ ?_
  ·skip
   obtain ⟨cE, bH, hM⟩ := M.e_bind hM
   refine s_call cf9 [aw] rfl (zae aN (br.app _) bt bH _ (H.gt 2)) ?_
   rintro vq cF ⟨r2, ag, bI, hvq, ak⟩
   subst bI
   subst vq
   try dsimp only at hM
   replace H := H.bk ak
   clear ak
   have aY := Sl.cells (H.os 0)
   have cG := Sl.oc (H.os 0)
   refine s_nil ⟨(H.pk [1, 2]), ?_⟩
   refine t_l2 rfl rfl ?_ ?_
   ·skip
    obtain ⟨cH, bJ, hM⟩ := M.e_bind hM
    refine s_call cf44 [av] rfl (za0 aI (aW.app _) aX bJ _ (H.gt 3)) ?_
    rintro vq cI ⟨r3, ae, bK, hvq, ak⟩
    subst bK
    subst vq
    try dsimp only at hM
    replace H := H.bk ak
    clear ak
    have bv := Sl.cells (H.os 0)
    have cJ := Sl.oc (H.os 0)
    refine s_nil ⟨(H.pk [2, 3]), ?_⟩
    refine t_l2 rfl rfl ?_ ?_
    ·skip
     obtain ⟨cK, bL, hM⟩ := M.e_bind hM
     refine s_call cf9 [ap] rfl (zae aH (aO.app _) aP bL _ (H.gt 4)) ?_
     rintro vq cL ⟨r4, aa, bM, hvq, ak⟩
     subst bM
     subst vq
     try dsimp only at hM
     replace H := H.bk ak
     clear ak
     have bN := Sl.cells (H.os 0)
     have cM := Sl.oc (H.os 0)
     refine s_nil ⟨(H.pk [3, 4]), ?_⟩
     refine t_q rfl (fun w' H => x_bld (ps := [(0, ag), (1, ae), (2, aa), (4, .agg #[I ab, I ac])]) (zs := [.slice none 0 0, .slice none 0 0, .slice none 0 0, .slice none 0 0, I 0, I 0, .slice none 0 0]) (L' := [ag, ae, aa, .slice none 0 0, I ab, I ac, .slice none 0 0]) rfl Tryz.underlying37 Al37 rfl (Bd37 Tryz.underlying37) (.cons (cs := [ag]) aY rfl rfl rfl rfl <| .cons (cs := [ae]) bv rfl rfl rfl rfl <| .cons (cs := [aa]) bN rfl rfl rfl rfl <| .cons (cs := [I ab, I ac]) rfl rfl rfl rfl rfl <| .nil)) ?_
     refine t_l rfl ?_
     refine t_alloc (cs := [.slice none 0 0, .slice none 0 0, .slice none 0 0, .slice none 0 0, I 0, I 0, .slice none 0 0]) H Al37 rfl ?_
     intro ai cN H
     refine s_nil ⟨(H.pk [4, 5]), ?_⟩
     refine t_l rfl ?_
     refine t_sw 0 0 [ag, ae, aa, .slice none 0 0, I ab, I ac, .slice none 0 0] (.agg #[ag, ae, aa, .slice none 0 0, I ab, I ac, .slice none 0 0]) H rfl rfl Sz37 rfl rfl rfl (by simp only [List.all_cons, List.all_nil, Bool.true_and, Bool.and_true, Sl.oc (H.os 3), Sl.oc (H.os 2), Sl.oc (H.os 1)]; try rfl) ?_
     intro cO H
     refine s_nil ⟨(H.pk [4, 5]), ?_⟩
     refine t_nil ?_
     exact ⟨ai, r2, r3, r4, ag, ae, aa, _, upds_of _ _ ⟨rfl, rfl, rfl, trivial⟩, hM, H⟩
    skip
    refine t_alloc (cs := [.slice none 0 0, .slice none 0 0, .slice none 0 0, .slice none 0 0, I 0, I 0, .slice none 0 0]) H Al37 rfl ?_
    intro ai cP H
    refine s_nil ⟨(H.pk [3, 4]), ?_⟩
    refine t_l rfl ?_
    obtain ⟨cQ, bO, hM⟩ := M.e_bind hM
    refine s_call cf9 [ap] rfl (zae aH (aO.app _) aP bO _ (H.gt 5)) ?_
    rintro vq cR ⟨r4, aa, bP, hvq, ak⟩
    subst bP
    subst vq
    try dsimp only at hM
    replace H := H.bk ak
    clear ak
    have bQ := Sl.cells (H.os 0)
    have cS := Sl.oc (H.os 0)
    refine s_nil ⟨(H.pk [4, 5]), ?_⟩
    refine t_q rfl (fun w' H => x_bld (ps := [(0, ag), (1, ae), (2, aa), (4, .agg #[I ab, I ac])]) (zs := [.slice none 0 0, .slice none 0 0, .slice none 0 0, .slice none 0 0, I 0, I 0, .slice none 0 0]) (L' := [ag, ae, aa, .slice none 0 0, I ab, I ac, .slice none 0 0]) rfl Tryz.underlying37 Al37 rfl (Bd37 Tryz.underlying37) (.cons (cs := [ag]) aY rfl rfl rfl rfl <| .cons (cs := [ae]) bv rfl rfl rfl rfl <| .cons (cs := [aa]) bQ rfl rfl rfl rfl <| .cons (cs := [I ab, I ac]) rfl rfl rfl rfl rfl <| .nil)) ?_
    refine t_l rfl ?_
    refine t_sw 1 0 [ag, ae, aa, .slice none 0 0, I ab, I ac, .slice none 0 0] (.agg #[ag, ae, aa, .slice none 0 0, I ab, I ac, .slice none 0 0]) H rfl rfl Sz37 rfl rfl rfl (by simp only [List.all_cons, List.all_nil, Bool.true_and, Bool.and_true, Sl.oc (H.os 3), Sl.oc (H.os 2), Sl.oc (H.os 0)]; try rfl) ?_
    intro cT H
    refine s_nil ⟨(H.pk [4, 5]), ?_⟩
    refine t_nil ?_
    exact ⟨ai, r2, r3, r4, ag, ae, aa, _, upds_of _ _ ⟨rfl, rfl, rfl, trivial⟩, hM, (H.pk [1, 0, 2, 3, 4, 5])⟩
   skip
   refine t_alloc (cs := [.slice none 0 0, .slice none 0 0, .slice none 0 0, .slice none 0 0, I 0, I 0, .slice none 0 0]) H Al37 rfl ?_
   intro ai cU H
   refine s_nil ⟨(H.pk [2, 3]), ?_⟩
   refine t_l rfl ?_
   obtain ⟨cV, bR, hM⟩ := M.e_bind hM
   refine s_call cf44 [av] rfl (za0 aI (aW.app _) aX bR _ (H.gt 4)) ?_
   rintro vq cW ⟨r3, ae, bS, hvq, ak⟩
   subst bS
   subst vq
   try dsimp only at hM
   replace H := H.bk ak
   clear ak
   have bT := Sl.cells (H.os 0)
   have cX := Sl.oc (H.os 0)
   refine s_nil ⟨(H.pk [3, 4]), ?_⟩
   refine t_l rfl ?_
   obtain ⟨cY, bU, hM⟩ := M.e_bind hM
   refine s_call cf9 [ap] rfl (zae aH (aO.app _) aP bU _ (H.gt 5)) ?_
   rintro vq cZ ⟨r4, aa, bV, hvq, ak⟩
   subst bV
   subst vq
   try dsimp only at hM
   replace H := H.bk ak
   clear ak
   have bW := Sl.cells (H.os 0)
   have c6 := Sl.oc (H.os 0)
   refine s_nil ⟨(H.pk [4, 5]), ?_⟩
   refine t_q rfl (fun w' H => x_bld (ps := [(0, ag), (1, ae), (2, aa), (4, .agg #[I ab, I ac])]) (zs := [.slice none 0 0, .slice none 0 0, .slice none 0 0, .slice none 0 0, I 0, I 0, .slice none 0 0]) (L' := [ag, ae, aa, .slice none 0 0, I ab, I ac, .slice none 0 0]) rfl Tryz.underlying37 Al37 rfl (Bd37 Tryz.underlying37) (.cons (cs := [ag]) aY rfl rfl rfl rfl <| .cons (cs := [ae]) bT rfl rfl rfl rfl <| .cons (cs := [aa]) bW rfl rfl rfl rfl <| .cons (cs := [I ab, I ac]) rfl rfl rfl rfl rfl <| .nil)) ?_
   refine t_l rfl ?_
   refine t_sw 2 0 [ag, ae, aa, .slice none 0 0, I ab, I ac, .slice none 0 0] (.agg #[ag, ae, aa, .slice none 0 0, I ab, I ac, .slice none 0 0]) H rfl rfl Sz37 rfl rfl rfl (by simp only [List.all_cons, List.all_nil, Bool.true_and, Bool.and_true, Sl.oc (H.os 3), Sl.oc (H.os 1), Sl.oc (H.os 0)]; try rfl) ?_
   intro c7 H
   refine s_nil ⟨(H.pk [4, 5]), ?_⟩
   refine t_nil ?_
   exact ⟨ai, r2, r3, r4, ag, ae, aa, _, upds_of _ _ ⟨rfl, rfl, rfl, trivial⟩, hM, (H.pk [2, 0, 1, 3, 4, 5])⟩
  skip
  refine t_alloc (cs := [.slice none 0 0, .slice none 0 0, .slice none 0 0, .slice none 0 0, I 0, I 0, .slice none 0 0]) H Al37 rfl ?_
  intro ai c8 H
  refine s_nil ⟨(H.pk [1, 2]), ?_⟩
  refine t_l rfl ?_
  obtain ⟨c9, bX, hM⟩ := M.e_bind hM
  refine s_call cf9 [aw] rfl (zae aN (br.app _) bt bX _ (H.gt 3)) ?_
  rintro vq da ⟨r2, ag, bY, hvq, ak⟩
  subst bY
  subst vq
  try dsimp only at hM
  replace H := H.bk ak
  clear ak
  have bZ := Sl.cells (H.os 0)
  have db := Sl.oc (H.os 0)
  refine s_nil ⟨(H.pk [2, 3]), ?_⟩
  refine t_l rfl ?_
  obtain ⟨dc, b3, hM⟩ := M.e_bind hM
  refine s_call cf44 [av] rfl (za0 aI (aW.app _) aX b3 _ (H.gt 4)) ?_
  rintro vq dd ⟨r3, ae, b4, hvq, ak⟩
  subst b4
  subst vq
  try dsimp only at hM
  replace H := H.bk ak
  clear ak
  have b5 := Sl.cells (H.os 0)
  have de := Sl.oc (H.os 0)
  refine s_nil ⟨(H.pk [3, 4]), ?_⟩
  refine t_l rfl ?_
  obtain ⟨dg, b6, hM⟩ := M.e_bind hM
  refine s_call cf9 [ap] rfl (zae aH (aO.app _) aP b6 _ (H.gt 5)) ?_
  rintro vq di ⟨r4, aa, b7, hvq, ak⟩
  subst b7
  subst vq
  try dsimp only at hM
  replace H := H.bk ak
  clear ak
  have b8 := Sl.cells (H.os 0)
  have dj := Sl.oc (H.os 0)
  refine s_nil ⟨(H.pk [4, 5]), ?_⟩
  refine t_q rfl (fun w' H => x_bld (ps := [(0, ag), (1, ae), (2, aa), (4, .agg #[I ab, I ac])]) (zs := [.slice none 0 0, .slice none 0 0, .slice none 0 0, .slice none 0 0, I 0, I 0, .slice none 0 0]) (L' := [ag, ae, aa, .slice none 0 0, I ab, I ac, .slice none 0 0]) rfl Tryz.underlying37 Al37 rfl (Bd37 Tryz.underlying37) (.cons (cs := [ag]) bZ rfl rfl rfl rfl <| .cons (cs := [ae]) b5 rfl rfl rfl rfl <| .cons (cs := [aa]) b8 rfl rfl rfl rfl <| .cons (cs := [I ab, I ac]) rfl rfl rfl rfl rfl <| .nil)) ?_
  refine t_l rfl ?_
  refine t_sw 3 0 [ag, ae, aa, .slice none 0 0, I ab, I ac, .slice none 0 0] (.agg #[ag, ae, aa, .slice none 0 0, I ab, I ac, .slice none 0 0]) H rfl rfl Sz37 rfl rfl rfl (by simp only [List.all_cons, List.all_nil, Bool.true_and, Bool.and_true, Sl.oc (H.os 2), Sl.oc (H.os 1), Sl.oc (H.os 0)]; try rfl) ?_
  intro dk H
  refine s_nil ⟨(H.pk [4, 5]), ?_⟩
  refine t_nil ?_
  exact ⟨ai, r2, r3, r4, ag, ae, aa, _, upds_of _ _ ⟨rfl, rfl, rfl, trivial⟩, hM, (H.pk [3, 0, 1, 2, 4, 5])⟩
 rintro _ dm ⟨ai, r2, r3, r4, ag, ae, aa, ρ, rfl, hM, H⟩
 unfold zca at hM
 refine W.seq ?_
 refine W.seq ?_
 refine W.region rfl ?_
 refine zA (I 0) rfl ?_
 refine s_nil ?_
 refine W.block ?_
 replace H := H.nilOwn (α := Town) 92
 obtain ⟨b9, aZ, ca⟩ := M.e_bind hM
 obtain ⟨cb, aZ⟩ := M.e_iter aZ
 refine W.loop (fun m σ W => ∃ (i : Nat) (l : List Town) (ao : Value) (ρ : Env), σ = upds ρ [(1, Pq ah), (2, Pq aB), (3, Pq ai), (4, I (i : Int))] /\ M.iterN (zbp aj) m (i, l) = some b9 /\ St w W [cOwn (α := Town) 92 ao l, cBlk ai [ag, ae, aa, ao, I ab, I ac, .slice none 0 0] 37, cOwn (α := Int) 3 aa r4, cOwn (α := Span) 26 ae r3, cOwn (α := Int) 3 ag r2, cBlk aB [.slice none 0 0, .slice none 0 0, .slice none 0 0, .slice none 0 0, I 0, I 0, .slice none 0 0] 37, cBlk ah [aw, av, ap, aq, I ab, I ac, au] 29] R) ?_ ?_
 ·exact ⟨_, 0, [], (.slice none 0 0), _, upds_of _ _ ⟨rfl, rfl, rfl, rfl, trivial⟩, aZ, H⟩
 rintro dp σ dq ⟨i, l, ao, ρ, rfl, bw, H⟩
 obtain ⟨bx, bz, dr, hM, a6⟩ := M.e_iterN bw
 simp only [zbp] at hM
 clear bw
 refine W.seq ?_
 refine W.seq ?_
 refine W.region rfl ?_
 refine zM (I (i : Int)) rfl ?_
 refine s_val (x_fa (a := Pq ah) (v := Oq ah 3) rfl (fa_blk (o := 0) Fd29_3 Sz24)) ?_
 refine s_val (x_ld (p := Oq ah 3) (v := aq) rfl (ldb_sc Sc24 (H.bl 6) rfl)) ?_
 have dt := (aQ).len_le
 refine s_val (x_lenS T24.und rfl aQ) ?_
 refine zC (i : Int) (aj.length : Int) (decide ((i : Int) < (aj.length : Int))) rfl rfl rfl ?_
 refine s_nil ?_
 refine W.cond (decide ((i : Int) < (aj.length : Int))) rfl (fun aJ => ?_) (fun aJ => ?_)
 ·replace hM := M.e_t hM aJ
  simp only [qy1, qy2, qy3, qy4, qy5, qy6, ne_eq, qy7] at aJ
  refine W.skip ?_
  refine W.seq ?_
  refine W.block ?_
  refine W.drawT (fun W => St w W [cOwn (α := Int) 3 aa r4, cOwn (α := Span) 26 ae r3, cOwn (α := Int) 3 ag r2, cBlk aB [.slice none 0 0, .slice none 0 0, .slice none 0 0, .slice none 0 0, I 0, I 0, .slice none 0 0] 37, cBlk ah [aw, av, ap, aq, I ab, I ac, au] 29] R) (.q 0 (.q 2 (.q 3 (.q 4 (.q 5 (.q 6 (.l2 1 (.l 7 (.l 8 (.q 9 (.l 10 .nil)))) 7 (.l 1 (.l 8 (.q 9 (.l 10 .nil))))))))))) mixed (by decide +kernel) rfl ?_
  intro du aC
  replace H := H.ext aC
  clear aC
  refine ⟨(H.pk [2, 3, 4, 5, 6]), ?_⟩
  refine t_q rfl (fun w' H => x_fa (a := Pq ai) (v := Oq ai 3) rfl (fa_blk (o := 0) Fd37_3 Sz34)) ?_
  refine t_q rfl (fun w' H => x_fa (a := Pq ah) (v := Oq ah 3) rfl (fa_blk (o := 0) Fd29_3 Sz24)) ?_
  refine t_q rfl (fun w' H => x_ld (p := Oq ah 3) (v := aq) rfl (ldb_sc Sc24 (H.bl 4) rfl)) ?_
  refine t_q rfl (fun w' H => x_mv (v := I (i : Int)) rfl) ?_
  obtain ⟨cc, hM⟩ := M.e_grd hM
  simp only [Bool.and_eq_true, decide_eq_true_eq] at cc
  refine t_q rfl (fun w' H => x_ix (a := aq) (b := I (i : Int)) (v := vat aq 3 (Int.toNat (i : Int))) rfl rfl (Sl.ix (α := Town) T24.und T24.size aQ (by omega) (by omega))) ?_
  refine t_q rfl (fun w' H => x_ld (p := vat aq 3 (Int.toNat (i : Int))) (v := .agg #[I ((aj.getD i default).station), I ((aj.getD i default).lead), I ((aj.getD i default).alarm)]) rfl (ld_ag Ag91 Sz91 (At.mono (Town_atA aQ (i := (i : Int)) (by omega) (by omega)) (bG.at H)))) ?_
  obtain ⟨ce, hM⟩ := M.e_grd hM
  simp only [Bool.and_eq_true, decide_eq_true_eq] at ce
  refine t_l2 rfl rfl ?_ ?_
  ·skip
   refine s_val (x_ld (p := Oq ai 3) (v := ao) rfl (ldb_sc Sc34 (H.bl 1) rfl)) ?_
   have dv := Sl.cells (H.os 0)
   have dw := Sl.oc (H.os 0)
   refine s_nil ⟨(H.pk [2, 3, 4, 5, 6]), ?_⟩
   refine t_l rfl ?_
   refine t_bs (α := Town) T34 [.agg #[I ((aj.getD i default).station), I ((aj.getD i default).lead), I ((aj.getD i default).alarm)]] [(aj.getD i default)] H rfl (.cons rfl (Flat.rep_enc _ (aj.getD i default)) <| .nil) rfl rfl rfl ?_
   intro cf dx H
   have dy := Sl.cells (H.os 0)
   have dz := Sl.oc (H.os 0)
   refine s_nil ⟨(H.pk [3, 4, 5, 6, 7]), ?_⟩
   refine t_l rfl ?_
   refine t_app (α := Town) (k := 1) (l := l) (l2 := [(aj.getD i default)]) (l' := l ++ ([(aj.getD i default)])) (vy := cf) T34 rfl H rfl rfl rfl (H.os 0) (H.ol 0) (rfl) (by first | omega | (simp only [List.length_nil] at *; omega)) ?_
   intro a7 dA H
   replace H := H.nf
   have dB := Sl.cells (H.os 1)
   have dC := Sl.oc (H.os 1)
   refine s_nil ⟨(H.pk [3, 4, 5, 6, 7]), ?_⟩
   refine t_q rfl (fun w' H => x_fa (a := Pq ai) (v := Oq ai 3) rfl (fa_blk (o := 0) Fd37_3 Sz34)) ?_
   refine t_l rfl ?_
   refine t_sw 2 3 [a7] a7 H rfl rfl Sz34 (Sl.cells (H.os 1)) rfl rfl (by simp only [List.all_cons, List.all_nil, Bool.true_and, Bool.and_true, Sl.oc (H.os 1)]; try rfl) ?_
   intro dD H
   refine s_nil ⟨(H.pk [3, 4, 5, 6, 7]), ?_⟩
   refine t_nil ?_
   refine W.region rfl ?_
   refine zM (I (i : Int)) rfl ?_
   refine zR (i : Int) 1 ((i : Int) + 1) rfl rfl rfl (by omega) ?_
   refine zA (I ((i : Int) + 1)) rfl ?_
   refine s_nil ?_
   exact ⟨bx, bz, i + 1, l ++ ([(aj.getD i default)]), a7, _, upds_of _ _ ⟨rfl, rfl, rfl, rfl, trivial⟩, M.e_inl hM a6, (H.pk [1, 2, 3, 4, 5, 6, 7])⟩
  skip
  refine t_bs (α := Town) T34 [.agg #[I ((aj.getD i default).station), I ((aj.getD i default).lead), I ((aj.getD i default).alarm)]] [(aj.getD i default)] H rfl (.cons rfl (Flat.rep_enc _ (aj.getD i default)) <| .nil) rfl rfl rfl ?_
  intro cg dE H
  have dF := Sl.cells (H.os 0)
  have dG := Sl.oc (H.os 0)
  have dH := Sl.cells (H.os 1)
  have dI := Sl.oc (H.os 1)
  refine s_nil ⟨(H.pk [3, 4, 5, 6, 7]), ?_⟩
  refine t_l rfl ?_
  refine s_val (x_ld (p := Oq ai 3) (v := ao) rfl (ldb_sc Sc34 (H.bl 2) rfl)) ?_
  refine s_nil ⟨(H.pk [3, 4, 5, 6, 7]), ?_⟩
  refine t_l rfl ?_
  refine t_app (α := Town) (k := 1) (l := l) (l2 := [(aj.getD i default)]) (l' := l ++ ([(aj.getD i default)])) (vy := cg) T34 rfl H rfl rfl rfl (H.os 0) (H.ol 0) (rfl) (by first | omega | (simp only [List.length_nil] at *; omega)) ?_
  intro a8 dJ H
  replace H := H.nf
  have dK := Sl.cells (H.os 1)
  have dL := Sl.oc (H.os 1)
  refine s_nil ⟨(H.pk [3, 4, 5, 6, 7]), ?_⟩
  refine t_q rfl (fun w' H => x_fa (a := Pq ai) (v := Oq ai 3) rfl (fa_blk (o := 0) Fd37_3 Sz34)) ?_
  refine t_l rfl ?_
  refine t_sw 2 3 [a8] a8 H rfl rfl Sz34 (Sl.cells (H.os 1)) rfl rfl (by simp only [List.all_cons, List.all_nil, Bool.true_and, Bool.and_true, Sl.oc (H.os 1)]; try rfl) ?_
  intro dM H
  refine s_nil ⟨(H.pk [3, 4, 5, 6, 7]), ?_⟩
  refine t_nil ?_
  refine W.region rfl ?_
  refine zM (I (i : Int)) rfl ?_
  refine zR (i : Int) 1 ((i : Int) + 1) rfl rfl rfl (by omega) ?_
  refine zA (I ((i : Int) + 1)) rfl ?_
  refine s_nil ?_
  exact ⟨bx, bz, i + 1, l ++ ([(aj.getD i default)]), a8, _, upds_of _ _ ⟨rfl, rfl, rfl, rfl, trivial⟩, M.e_inl hM a6, (H.pk [1, 2, 3, 4, 5, 6, 7])⟩
 replace hM := M.e_f hM aJ
 simp only [qy1, qy2, qy3, qy4, qy5, qy6, ne_eq, qy7] at aJ
 refine W.exit ?_
 have ci := M.e_inr hM a6
 subst ci
 replace hM := ca
 try dsimp only at hM
 refine W.seq ?_
 refine W.seq ?_
 refine W.region rfl ?_
 refine zA (I 0) rfl ?_
 refine s_nil ?_
 refine W.block ?_
 obtain ⟨bA, H⟩ := H.emptyE
 replace H := H.nilOwn (α := Raw 1) 93
 have ba : RepR (α := Flood) (n := 1) bA.cells [] [] := .nil
 replace ba := ba.mono (Cells.sup_r (ay.at H) (roLe _ (H.get (k := 1) rfl)))
 obtain ⟨cj, bc, ck⟩ := M.e_bind hM
 obtain ⟨cb, bc⟩ := M.e_iter bc
 refine W.loop (fun m σ W => ∃ (i2 : Nat) (l4 : List Flood) (ax : Value) (az : List (Raw 1)) (B_l4 : Base) (ρ : Env), σ = upds ρ [(1, Pq ah), (2, Pq aB), (3, Pq ai), (5, I (i2 : Int))] /\ M.iterN (zbf am) m (i2, l4) = some cj /\ St w W [cOwn (α := Raw 1) 93 ax az, cRo B_l4, cOwn (α := Town) 92 ao l, cBlk ai [ag, ae, aa, ao, I ab, I ac, ax] 37, cOwn (α := Int) 3 aa r4, cOwn (α := Span) 26 ae r3, cOwn (α := Int) 3 ag r2, cBlk aB [.slice none 0 0, .slice none 0 0, .slice none 0 0, .slice none 0 0, I 0, I 0, .slice none 0 0] 37, cBlk ah [aw, av, ap, aq, I ab, I ac, au] 29] R /\ RepR (α := Flood) (Cells.sup aG B_l4.cells) az l4) ?_ ?_
 ·exact ⟨_, 0, [], (.slice none 0 0), [], bA, _, upds_of _ _ ⟨rfl, rfl, rfl, rfl, trivial⟩, bc, H, ba⟩
 rintro dN σ dO ⟨i2, l4, ax, az, B_l4, ρ, rfl, bB, H, aA⟩
 obtain ⟨bC, bD, dP, hM, bf⟩ := M.e_iterN bB
 simp only [zbf] at hM
 clear bB
 refine W.seq ?_
 refine W.seq ?_
 refine W.region rfl ?_
 refine zM (I (i2 : Int)) rfl ?_
 refine s_val (x_fa (a := Pq ah) (v := Oq ah 6) rfl (fa_blk (o := 0) Fd29_5 Sz27)) ?_
 refine s_val (x_ld (p := Oq ah 6) (v := au) rfl (ldb_sc Sc27 (H.bl 8) rfl)) ?_
 have dQ := (aR).len_le
 refine s_val (x_lenS T27.und rfl aR) ?_
 refine zC (i2 : Int) (am.length : Int) (decide ((i2 : Int) < (am.length : Int))) rfl rfl rfl ?_
 refine s_nil ?_
 refine W.cond (decide ((i2 : Int) < (am.length : Int))) rfl (fun aK => ?_) (fun aK => ?_)
 ·replace hM := M.e_t hM aK
  simp only [qy1, qy2, qy3, qy4, qy5, qy6, ne_eq, qy7] at aK
  refine W.skip ?_
  refine W.seq ?_
  refine W.block ?_
  refine W.drawT (fun W => St w W [cRo B_l4, cOwn (α := Town) 92 ao l, cOwn (α := Int) 3 aa r4, cOwn (α := Span) 26 ae r3, cOwn (α := Int) 3 ag r2, cBlk aB [.slice none 0 0, .slice none 0 0, .slice none 0 0, .slice none 0 0, I 0, I 0, .slice none 0 0] 37, cBlk ah [aw, av, ap, aq, I ab, I ac, au] 29] R) (.q 0 (.q 2 (.q 3 (.q 4 (.q 5 (.q 6 (.l2 1 (.l 7 (.l 8 (.q 9 (.l 10 .nil)))) 7 (.l 1 (.l 8 (.q 9 (.l 10 .nil))))))))))) mixed (by decide +kernel) rfl ?_
  intro dR aC
  replace H := H.ext aC
  clear aC
  refine ⟨(H.pk [1, 2, 4, 5, 6, 7, 8]), ?_⟩
  refine t_q rfl (fun w' H => x_fa (a := Pq ai) (v := Oq ai 6) rfl (fa_blk (o := 0) Fd37_5 Sz35)) ?_
  refine t_q rfl (fun w' H => x_fa (a := Pq ah) (v := Oq ah 6) rfl (fa_blk (o := 0) Fd29_5 Sz27)) ?_
  refine t_q rfl (fun w' H => x_ld (p := Oq ah 6) (v := au) rfl (ldb_sc Sc27 (H.bl 6) rfl)) ?_
  refine t_q rfl (fun w' H => x_mv (v := I (i2 : Int)) rfl) ?_
  obtain ⟨cl, hM⟩ := M.e_grd hM
  simp only [Bool.and_eq_true, decide_eq_true_eq] at cl
  refine t_q rfl (fun w' H => x_ix (a := au) (b := I (i2 : Int)) (v := vat au 2 (Int.toNat (i2 : Int))) rfl rfl (Sl.ix (α := Flood) T27.und T27.size aR (by omega) (by omega))) ?_
  obtain ⟨aD, cm, aL⟩ := Flood_atA aR (i := (i2 : Int)) (by omega) (by omega)
  replace aL : Sl _ aD (am.getD i2 default).stages := aL
  have dS := aL.len_le
  refine t_q rfl (fun w' H => x_ld (p := vat au 2 (Int.toNat (i2 : Int))) (v := .agg #[I ((am.getD i2 default).spring), aD]) rfl (ld_ag Ag85 Sz85 (At.mono cm (ay.at H)))) ?_
  obtain ⟨cn, hM⟩ := M.e_grd hM
  simp only [Bool.and_eq_true, decide_eq_true_eq] at cn
  refine t_l2 rfl rfl ?_ ?_
  ·skip
   refine s_val (x_ld (p := Oq ai 6) (v := ax) rfl (ldb_sc Sc35 (H.bl 3) rfl)) ?_
   have dT := Sl.cells (H.os 0)
   have dU := Sl.oc (H.os 0)
   refine s_nil ⟨(H.pk [1, 2, 4, 5, 6, 7, 8]), ?_⟩
   refine t_l rfl ?_
   obtain ⟨aM, H⟩ := H.emptyE
   have aS := aL
   replace aS := aS.mono (Cells.sup_l _ aM.cells)
   obtain ⟨aE, bE⟩ : ∃ r : Raw 1, r.cs = [I ((am.getD i2 default).spring), aD] := ⟨Raw.of [I ((am.getD i2 default).spring), aD] rfl (by simp only [List.all_cons, List.all_nil, Bool.true_and, Bool.and_true, Sl.oc aS]; try rfl), rfl⟩
   have co : RepR (α := Flood) (Cells.sup aG aM.cells) [aE] [(am.getD i2 default)] := .cons (by rw [bE]; exact ⟨_, rfl, aS⟩) <| .nil
   refine t_bs (α := Raw 1) T35 [.agg #[I ((am.getD i2 default).spring), aD]] [aE] H rfl (.cons (by rw [show (Flat.enc aE : List Value) = aE.cs from rfl, bE]; rfl) (Flat.rep_enc _ _) <| .nil) rfl rfl rfl ?_
   intro cp dV H
   replace H := H.nf
   have dW := Sl.cells (H.os 0)
   have dX := Sl.oc (H.os 0)
   refine s_nil ⟨(H.pk [3, 4, 6, 7, 8, 9, 10]), ?_⟩
   refine t_l rfl ?_
   have aT := co
   obtain ⟨bg, H, cq, cr⟩ := H.joinE (i := 3) (j := 1) rfl rfl
   replace aA := aA.mono (Cells.sup_mono cq (ay.at H) (roLe _ (H.get (k := 0) rfl)))
   replace aT := aT.mono (Cells.sup_mono cr (ay.at H) (roLe _ (H.get (k := 0) rfl)))
   have bh := aA.app aT
   refine t_app (α := Raw 1) (k := 3) (l := az) (l2 := [aE]) (l' := az ++ ([aE])) (vy := cp) T35 rfl H rfl rfl rfl (H.os 1) (H.ol 1) (rfl) (by have a_ := aA.len; have b_ := aT.len; (try simp only [List.length_nil] at *); first | omega | (rw [a_, b_]; omega)) ?_
   intro bi dY H
   replace H := H.nf
   have dZ := Sl.cells (H.os 3)
   have d6 := Sl.oc (H.os 3)
   refine s_nil ⟨(H.pk [4, 5, 7, 8, 9, 10, 11]), ?_⟩
   refine t_q rfl (fun w' H => x_fa (a := Pq ai) (v := Oq ai 6) rfl (fa_blk (o := 0) Fd37_5 Sz35)) ?_
   refine t_l rfl ?_
   refine t_sw 6 6 [bi] bi H rfl rfl Sz35 (Sl.cells (rowSl rfl (H.get (k := 3) rfl) (Cells.sup_le (ay.at H) (roLe _ (H.get (k := 0) rfl))) bh)) rfl rfl (by simp only [List.all_cons, List.all_nil, Bool.true_and, Bool.and_true, Sl.oc (rowSl rfl (H.get (k := 3) rfl) (Cells.sup_le (ay.at H) (roLe _ (H.get (k := 0) rfl))) bh)]; try rfl) ?_
   intro d7 H
   refine s_nil ⟨(H.pk [4, 5, 7, 8, 9, 10, 11]), ?_⟩
   refine t_nil ?_
   replace H := H.pk [0, 3, 4, 5, 6, 7, 8, 9, 10, 11]
   refine W.region rfl ?_
   refine zM (I (i2 : Int)) rfl ?_
   refine zR (i2 : Int) 1 ((i2 : Int) + 1) rfl rfl rfl (by omega) ?_
   refine zA (I ((i2 : Int) + 1)) rfl ?_
   refine s_nil ?_
   exact ⟨bC, bD, i2 + 1, l4 ++ ([(am.getD i2 default)]), bi, az ++ ([aE]), bg, _, upds_of _ _ ⟨rfl, rfl, rfl, rfl, trivial⟩, M.e_inl hM bf, (H.pk [1, 0, 3, 4, 5, 6, 7, 8, 9]), bh⟩
  skip
  obtain ⟨aM, H⟩ := H.emptyE
  have aU := aL
  replace aU := aU.mono (Cells.sup_l _ aM.cells)
  obtain ⟨aF, bF⟩ : ∃ r : Raw 1, r.cs = [I ((am.getD i2 default).spring), aD] := ⟨Raw.of [I ((am.getD i2 default).spring), aD] rfl (by simp only [List.all_cons, List.all_nil, Bool.true_and, Bool.and_true, Sl.oc aU]; try rfl), rfl⟩
  have cu : RepR (α := Flood) (Cells.sup aG aM.cells) [aF] [(am.getD i2 default)] := .cons (by rw [bF]; exact ⟨_, rfl, aU⟩) <| .nil
  refine t_bs (α := Raw 1) T35 [.agg #[I ((am.getD i2 default).spring), aD]] [aF] H rfl (.cons (by rw [show (Flat.enc aF : List Value) = aF.cs from rfl, bF]; rfl) (Flat.rep_enc _ _) <| .nil) rfl rfl rfl ?_
  intro cv d8 H
  replace H := H.nf
  have d9 := Sl.cells (H.os 0)
  have ea := Sl.oc (H.os 0)
  have eb := Sl.cells (H.os 2)
  have ec := Sl.oc (H.os 2)
  refine s_nil ⟨(H.pk [3, 4, 6, 7, 8, 9, 10]), ?_⟩
  refine t_l rfl ?_
  refine s_val (x_ld (p := Oq ai 6) (v := ax) rfl (ldb_sc Sc35 (H.bl 5) rfl)) ?_
  refine s_nil ⟨(H.pk [3, 4, 6, 7, 8, 9, 10]), ?_⟩
  refine t_l rfl ?_
  have aV := cu
  obtain ⟨bg, H, cw, cx⟩ := H.joinE (i := 3) (j := 1) rfl rfl
  replace aA := aA.mono (Cells.sup_mono cw (ay.at H) (roLe _ (H.get (k := 0) rfl)))
  replace aV := aV.mono (Cells.sup_mono cx (ay.at H) (roLe _ (H.get (k := 0) rfl)))
  have bj := aA.app aV
  refine t_app (α := Raw 1) (k := 3) (l := az) (l2 := [aF]) (l' := az ++ ([aF])) (vy := cv) T35 rfl H rfl rfl rfl (H.os 1) (H.ol 1) (rfl) (by have a_ := aA.len; have b_ := aV.len; (try simp only [List.length_nil] at *); first | omega | (rw [a_, b_]; omega)) ?_
  intro bm ed H
  replace H := H.nf
  have ee := Sl.cells (H.os 3)
  have ef := Sl.oc (H.os 3)
  refine s_nil ⟨(H.pk [4, 5, 7, 8, 9, 10, 11]), ?_⟩
  refine t_q rfl (fun w' H => x_fa (a := Pq ai) (v := Oq ai 6) rfl (fa_blk (o := 0) Fd37_5 Sz35)) ?_
  refine t_l rfl ?_
  refine t_sw 6 6 [bm] bm H rfl rfl Sz35 (Sl.cells (rowSl rfl (H.get (k := 3) rfl) (Cells.sup_le (ay.at H) (roLe _ (H.get (k := 0) rfl))) bj)) rfl rfl (by simp only [List.all_cons, List.all_nil, Bool.true_and, Bool.and_true, Sl.oc (rowSl rfl (H.get (k := 3) rfl) (Cells.sup_le (ay.at H) (roLe _ (H.get (k := 0) rfl))) bj)]; try rfl) ?_
  intro eg H
  refine s_nil ⟨(H.pk [4, 5, 7, 8, 9, 10, 11]), ?_⟩
  refine t_nil ?_
  replace H := H.pk [0, 3, 4, 5, 6, 7, 8, 9, 10, 11]
  refine W.region rfl ?_
  refine zM (I (i2 : Int)) rfl ?_
  refine zR (i2 : Int) 1 ((i2 : Int) + 1) rfl rfl rfl (by omega) ?_
  refine zA (I ((i2 : Int) + 1)) rfl ?_
  refine s_nil ?_
  exact ⟨bC, bD, i2 + 1, l4 ++ ([(am.getD i2 default)]), bm, az ++ ([aF]), bg, _, upds_of _ _ ⟨rfl, rfl, rfl, rfl, trivial⟩, M.e_inl hM bf, (H.pk [1, 0, 3, 4, 5, 6, 7, 8, 9]), bj⟩
 replace hM := M.e_f hM aK
 simp only [qy1, qy2, qy3, qy4, qy5, qy6, ne_eq, qy7] at aK
 refine W.exit ?_
 have cy := M.e_inr hM bf
 subst cy
 replace hM := ck
 try dsimp only at hM
 refine W.seq ?_
 refine W.region rfl ?_
 refine s_val (x_ld (p := Pq ai) (v := .agg #[ag, ae, aa, ao, I ab, I ac, ax]) rfl (ldb_ag (ds := [ag, ae, aa, ao, I ab, I ac, ax]) Ag37 Sz37 (H.bl 3) rfl rfl)) ?_
 refine t_sw 7 0 [ag, ae, aa, ao, I ab, I ac, ax] (.agg #[ag, ae, aa, ao, I ab, I ac, ax]) H rfl rfl Sz37 rfl rfl rfl (by simp only [List.all_cons, List.all_nil, Bool.true_and, Bool.and_true, Sl.oc (H.os 6), Sl.oc (H.os 5), Sl.oc (H.os 4), Sl.oc (H.os 2), Sl.oc (rowSl rfl (H.get (k := 0) rfl) (Cells.sup_le (ay.at H) (roLe _ (H.get (k := 1) rfl))) aA)]; try rfl) ?_
 intro eh H
 refine s_nil ?_
 replace H := H.pk [0, 1, 2, 4, 5, 6, 7]
 refine W.ret ?_
 have cz := (H.bl 6)
 have cA := M.e_pure hM
 exact ⟨_, (resE_of1 (v := .agg #[ag, ae, aa, ao, I ab, I ac, ax]) rfl (.cell (v := .agg #[ag, ae, aa, ao, I ab, I ac, ax]) rfl (run_loadVar_ag (ds := [ag, ae, aa, ao, I ab, I ac, ax]) Ag37 Sz37 cz rfl rfl) <| .nil)), ⟨r2, r3, r4, l, ab, ac, l4, ag, ae, aa, ao, ax, az, B_l4, cA, rfl, (H.pk [5, 4, 3, 2, 0, 1]), aA⟩⟩

def zbH (a : List Span) (b : List Span) : Nat -> M (Nat ⊕ (Unit ⊕ Unit)) := fun i =>
  bif decide ((i : Int) < (a.length : Int)) then (
  M.grd (decide ((i : Int) < (a.length : Int))) <|
  M.grd (decide ((i : Int) < (b.length : Int))) <|
  bif !(decide ((a.getD i default) = (b.getD i default))) then (
  M.pure (.inr (.inl ())))
  else (
  M.pure (.inl (i + 1))))
  else (
  M.pure (.inr (.inr ())))
def zbO (a : List Span) (b : List Span) : M Bool :=
  bif (a.length : Int) != (b.length : Int) then (
  M.pure false)
  else (
  M.bind (M.iter (zbH a b) 0) fun x_ => match x_ with
  | (.inl (_ : Unit)) => (
  M.pure false)
  | (.inr (_ : Unit)) => (
  M.pure true))
theorem zdz {R : List Chunk} {ao : Cells} {aa : Value} {ap : Cells} {ab : Value} (a : List Span) (b : List Span) (aw : Reads R ao) (ac : Sl ao aa a) (ax : Reads R ap) (ai : Sl ap ab b) {r : Bool} (hM : (zbO a b).Ends r) (w : World) (H : St w w [] R) : Ret Tryz.prog 59 #[aa, ab] w fun v w' => ∃ (y0 : Bool), y0 = r /\ v = B y0 /\ St w w' [] R := by
 refine ret_of_W Tryz.func59 rfl rfl rfl ?_
 refine W.seq ?_
 refine W.region rfl ?_
 refine zA (B false) rfl ?_
 refine s_nil ?_
 refine W.seq ?_
 refine W.seq ?_
 refine W.region rfl ?_
 refine zM aa rfl ?_
 have aF := (ac).len_le
 refine s_val (x_lenS T23.und rfl ac) ?_
 refine zM ab rfl ?_
 have aG := (ai).len_le
 refine s_val (x_lenS T23.und rfl ai) ?_
 refine zC (a.length : Int) (b.length : Int) ((a.length : Int) != (b.length : Int)) rfl rfl rfl ?_
 refine s_nil ?_
 refine W.cond ((a.length : Int) != (b.length : Int)) rfl (fun ae => ?_) (fun ae => ?_)
 ·replace hM := M.e_t hM ae
  simp only [qy1, qy2, qy3, qy4, qy5, qy6, ne_eq, qy7] at ae
  refine W.seq ?_
  refine W.region rfl ?_
  refine zA (B false) rfl ?_
  refine s_nil ?_
  refine W.ret ?_
  have ag := M.e_pure hM
  exact ⟨_, resE_tmp rfl, ⟨false, ag, rfl, H⟩⟩
 replace hM := M.e_f hM ae
 simp only [qy1, qy2, qy3, qy4, qy5, qy6, ne_eq, qy7] at ae
 refine W.skip ?_
 refine W.seq ?_
 refine W.seq ?_
 refine W.region rfl ?_
 refine zA (I 0) rfl ?_
 refine s_nil ?_
 refine W.block ?_
 obtain ⟨ay, aj, aq⟩ := M.e_bind hM
 obtain ⟨aH, aj⟩ := M.e_iter aj
 refine W.loop (fun m σ W => ∃ (i : Nat) (ρ : Env), σ = upds ρ [(0, aa), (1, ab), (5, I (i : Int))] /\ M.iterN (zbH a b) m i = some ay /\ St w W [] R) ?_ ?_
 ·exact ⟨_, 0, _, upds_of _ _ ⟨rfl, rfl, rfl, trivial⟩, aj, H⟩
 rintro aI σ aJ ⟨i, ρ, rfl, au, H⟩
 obtain ⟨az, aA, aK, hM, ak⟩ := M.e_iterN au
 simp only [zbH] at hM
 clear au
 refine W.seq ?_
 refine W.seq ?_
 refine W.region rfl ?_
 refine zM (I (i : Int)) rfl ?_
 refine zM aa rfl ?_
 have aL := (ac).len_le
 refine s_val (x_lenS T23.und rfl ac) ?_
 refine zC (i : Int) (a.length : Int) (decide ((i : Int) < (a.length : Int))) rfl rfl rfl ?_
 refine s_nil ?_
 refine W.cond (decide ((i : Int) < (a.length : Int))) rfl (fun ah => ?_) (fun ah => ?_)
 ·replace hM := M.e_t hM ah
  simp only [qy1, qy2, qy3, qy4, qy5, qy6, ne_eq, qy7] at ah
  refine W.skip ?_
  refine W.seq ?_
  refine W.block ?_
  refine W.seq ?_
  refine W.draw (fun W => St w W [] R) [(0, true), (1, true), (2, true), (3, true), (4, true), (5, true), (6, true), (7, true), (8, true)] mixed (by decide +kernel) rfl ?_
  intro aM av
  replace H := H.ext av
  clear av
  refine ⟨(H.pk []), ?_⟩
  refine d_q rfl (fun w' H => x_mv (v := aa) rfl) ?_
  refine d_q rfl (fun w' H => x_mv (v := I (i : Int)) rfl) ?_
  obtain ⟨aB, hM⟩ := M.e_grd hM
  simp only [Bool.and_eq_true, decide_eq_true_eq] at aB
  refine d_q rfl (fun w' H => x_ix (a := aa) (b := I (i : Int)) (v := vat aa 2 (Int.toNat (i : Int))) rfl rfl (Sl.ix (α := Span) T23.und T23.size ac (by omega) (by omega))) ?_
  refine d_q rfl (fun w' H => x_ld (p := vat aa 2 (Int.toNat (i : Int))) (v := .agg #[I ((a.getD i default).lo), I ((a.getD i default).hi)]) rfl (ld_ag Ag26 Sz26 (At.mono (Span_atA ac (i := (i : Int)) (by omega) (by omega)) (aw.at H)))) ?_
  refine d_q rfl (fun w' H => x_mv (v := ab) rfl) ?_
  refine d_q rfl (fun w' H => x_mv (v := I (i : Int)) rfl) ?_
  obtain ⟨aC, hM⟩ := M.e_grd hM
  simp only [Bool.and_eq_true, decide_eq_true_eq] at aC
  refine d_q rfl (fun w' H => x_ix (a := ab) (b := I (i : Int)) (v := vat ab 2 (Int.toNat (i : Int))) rfl rfl (Sl.ix (α := Span) T23.und T23.size ai (by omega) (by omega))) ?_
  refine d_q rfl (fun w' H => x_ld (p := vat ab 2 (Int.toNat (i : Int))) (v := .agg #[I ((b.getD i default).lo), I ((b.getD i default).hi)]) rfl (ld_ag Ag26 Sz26 (At.mono (Span_atA ai (i := (i : Int)) (by omega) (by omega)) (ax.at H)))) ?_
  refine d_q rfl (fun w' H => x_neS (eqT26 (a.getD i default) (b.getD i default) _) gdT26 rfl rfl) ?_
  refine d_nil ?_
  refine W.cond (!(decide ((a.getD i default) = (b.getD i default)))) rfl (fun am => ?_) (fun am => ?_)
  ·replace hM := M.e_t hM am
   refine W.seq ?_
   refine W.region rfl ?_
   refine zA (B false) rfl ?_
   refine s_nil ?_
   refine W.ret ?_
   have aD := M.e_inr hM ak
   subst aD
   replace hM := aq
   try dsimp only at hM
   have ag := M.e_pure hM
   exact ⟨_, resE_tmp rfl, ⟨false, ag, rfl, H⟩⟩
  replace hM := M.e_f hM am
  refine W.skip ?_
  refine W.region rfl ?_
  refine zM (I (i : Int)) rfl ?_
  refine zR (i : Int) 1 ((i : Int) + 1) rfl rfl rfl (by omega) ?_
  refine zA (I ((i : Int) + 1)) rfl ?_
  refine s_nil ?_
  exact ⟨az, aA, i + 1, _, upds_of _ _ ⟨rfl, rfl, rfl, trivial⟩, M.e_inl hM ak, H⟩
 replace hM := M.e_f hM ah
 simp only [qy1, qy2, qy3, qy4, qy5, qy6, ne_eq, qy7] at ah
 refine W.exit ?_
 have aE := M.e_inr hM ak
 subst aE
 replace hM := aq
 try dsimp only at hM
 refine W.seq ?_
 refine W.region rfl ?_
 refine zA (B true) rfl ?_
 refine s_nil ?_
 refine W.ret ?_
 have ag := M.e_pure hM
 exact ⟨_, resE_tmp rfl, ⟨true, ag, rfl, H⟩⟩

def zbl (a : List Town) (b : List Town) : Nat -> M (Nat ⊕ (Unit ⊕ Unit)) := fun i =>
  bif decide ((i : Int) < (a.length : Int)) then (
  M.grd (decide ((i : Int) < (a.length : Int))) <|
  M.grd (decide ((i : Int) < (b.length : Int))) <|
  bif !(decide ((a.getD i default) = (b.getD i default))) then (
  M.pure (.inr (.inl ())))
  else (
  M.pure (.inl (i + 1))))
  else (
  M.pure (.inr (.inr ())))
def zb9 (a : List Town) (b : List Town) : M Bool :=
  bif (a.length : Int) != (b.length : Int) then (
  M.pure false)
  else (
  M.bind (M.iter (zbl a b) 0) fun x_ => match x_ with
  | (.inl (_ : Unit)) => (
  M.pure false)
  | (.inr (_ : Unit)) => (
  M.pure true))
theorem zdA {R : List Chunk} {ao : Cells} {aa : Value} {ap : Cells} {ab : Value} (a : List Town) (b : List Town) (aw : Reads R ao) (ac : Sl ao aa a) (ax : Reads R ap) (ai : Sl ap ab b) {r : Bool} (hM : (zb9 a b).Ends r) (w : World) (H : St w w [] R) : Ret Tryz.prog 60 #[aa, ab] w fun v w' => ∃ (y0 : Bool), y0 = r /\ v = B y0 /\ St w w' [] R := by
 refine ret_of_W Tryz.func60 rfl rfl rfl ?_
 refine W.seq ?_
 refine W.region rfl ?_
 refine zA (B false) rfl ?_
 refine s_nil ?_
 refine W.seq ?_
 refine W.seq ?_
 refine W.region rfl ?_
 refine zM aa rfl ?_
 have aF := (ac).len_le
 refine s_val (x_lenS T24.und rfl ac) ?_
 refine zM ab rfl ?_
 have aG := (ai).len_le
 refine s_val (x_lenS T24.und rfl ai) ?_
 refine zC (a.length : Int) (b.length : Int) ((a.length : Int) != (b.length : Int)) rfl rfl rfl ?_
 refine s_nil ?_
 refine W.cond ((a.length : Int) != (b.length : Int)) rfl (fun ae => ?_) (fun ae => ?_)
 ·replace hM := M.e_t hM ae
  simp only [qy1, qy2, qy3, qy4, qy5, qy6, ne_eq, qy7] at ae
  refine W.seq ?_
  refine W.region rfl ?_
  refine zA (B false) rfl ?_
  refine s_nil ?_
  refine W.ret ?_
  have ag := M.e_pure hM
  exact ⟨_, resE_tmp rfl, ⟨false, ag, rfl, H⟩⟩
 replace hM := M.e_f hM ae
 simp only [qy1, qy2, qy3, qy4, qy5, qy6, ne_eq, qy7] at ae
 refine W.skip ?_
 refine W.seq ?_
 refine W.seq ?_
 refine W.region rfl ?_
 refine zA (I 0) rfl ?_
 refine s_nil ?_
 refine W.block ?_
 obtain ⟨ay, aj, aq⟩ := M.e_bind hM
 obtain ⟨aH, aj⟩ := M.e_iter aj
 refine W.loop (fun m σ W => ∃ (i : Nat) (ρ : Env), σ = upds ρ [(0, aa), (1, ab), (5, I (i : Int))] /\ M.iterN (zbl a b) m i = some ay /\ St w W [] R) ?_ ?_
 ·exact ⟨_, 0, _, upds_of _ _ ⟨rfl, rfl, rfl, trivial⟩, aj, H⟩
 rintro aI σ aJ ⟨i, ρ, rfl, au, H⟩
 obtain ⟨az, aA, aK, hM, ak⟩ := M.e_iterN au
 simp only [zbl] at hM
 clear au
 refine W.seq ?_
 refine W.seq ?_
 refine W.region rfl ?_
 refine zM (I (i : Int)) rfl ?_
 refine zM aa rfl ?_
 have aL := (ac).len_le
 refine s_val (x_lenS T24.und rfl ac) ?_
 refine zC (i : Int) (a.length : Int) (decide ((i : Int) < (a.length : Int))) rfl rfl rfl ?_
 refine s_nil ?_
 refine W.cond (decide ((i : Int) < (a.length : Int))) rfl (fun ah => ?_) (fun ah => ?_)
 ·replace hM := M.e_t hM ah
  simp only [qy1, qy2, qy3, qy4, qy5, qy6, ne_eq, qy7] at ah
  refine W.skip ?_
  refine W.seq ?_
  refine W.block ?_
  refine W.seq ?_
  refine W.draw (fun W => St w W [] R) [(0, true), (1, true), (2, true), (3, true), (4, true), (5, true), (6, true), (7, true), (8, true)] mixed (by decide +kernel) rfl ?_
  intro aM av
  replace H := H.ext av
  clear av
  refine ⟨(H.pk []), ?_⟩
  refine d_q rfl (fun w' H => x_mv (v := aa) rfl) ?_
  refine d_q rfl (fun w' H => x_mv (v := I (i : Int)) rfl) ?_
  obtain ⟨aB, hM⟩ := M.e_grd hM
  simp only [Bool.and_eq_true, decide_eq_true_eq] at aB
  refine d_q rfl (fun w' H => x_ix (a := aa) (b := I (i : Int)) (v := vat aa 3 (Int.toNat (i : Int))) rfl rfl (Sl.ix (α := Town) T24.und T24.size ac (by omega) (by omega))) ?_
  refine d_q rfl (fun w' H => x_ld (p := vat aa 3 (Int.toNat (i : Int))) (v := .agg #[I ((a.getD i default).station), I ((a.getD i default).lead), I ((a.getD i default).alarm)]) rfl (ld_ag Ag91 Sz91 (At.mono (Town_atA ac (i := (i : Int)) (by omega) (by omega)) (aw.at H)))) ?_
  refine d_q rfl (fun w' H => x_mv (v := ab) rfl) ?_
  refine d_q rfl (fun w' H => x_mv (v := I (i : Int)) rfl) ?_
  obtain ⟨aC, hM⟩ := M.e_grd hM
  simp only [Bool.and_eq_true, decide_eq_true_eq] at aC
  refine d_q rfl (fun w' H => x_ix (a := ab) (b := I (i : Int)) (v := vat ab 3 (Int.toNat (i : Int))) rfl rfl (Sl.ix (α := Town) T24.und T24.size ai (by omega) (by omega))) ?_
  refine d_q rfl (fun w' H => x_ld (p := vat ab 3 (Int.toNat (i : Int))) (v := .agg #[I ((b.getD i default).station), I ((b.getD i default).lead), I ((b.getD i default).alarm)]) rfl (ld_ag Ag91 Sz91 (At.mono (Town_atA ai (i := (i : Int)) (by omega) (by omega)) (ax.at H)))) ?_
  refine d_q rfl (fun w' H => x_neS (eqT91 (a.getD i default) (b.getD i default) _) gdT91 rfl rfl) ?_
  refine d_nil ?_
  refine W.cond (!(decide ((a.getD i default) = (b.getD i default)))) rfl (fun am => ?_) (fun am => ?_)
  ·replace hM := M.e_t hM am
   refine W.seq ?_
   refine W.region rfl ?_
   refine zA (B false) rfl ?_
   refine s_nil ?_
   refine W.ret ?_
   have aD := M.e_inr hM ak
   subst aD
   replace hM := aq
   try dsimp only at hM
   have ag := M.e_pure hM
   exact ⟨_, resE_tmp rfl, ⟨false, ag, rfl, H⟩⟩
  replace hM := M.e_f hM am
  refine W.skip ?_
  refine W.region rfl ?_
  refine zM (I (i : Int)) rfl ?_
  refine zR (i : Int) 1 ((i : Int) + 1) rfl rfl rfl (by omega) ?_
  refine zA (I ((i : Int) + 1)) rfl ?_
  refine s_nil ?_
  exact ⟨az, aA, i + 1, _, upds_of _ _ ⟨rfl, rfl, rfl, trivial⟩, M.e_inl hM ak, H⟩
 replace hM := M.e_f hM ah
 simp only [qy1, qy2, qy3, qy4, qy5, qy6, ne_eq, qy7] at ah
 refine W.exit ?_
 have aE := M.e_inr hM ak
 subst aE
 replace hM := aq
 try dsimp only at hM
 refine W.seq ?_
 refine W.region rfl ?_
 refine zA (B true) rfl ?_
 refine s_nil ?_
 refine W.ret ?_
 have ag := M.e_pure hM
 exact ⟨_, resE_tmp rfl, ⟨true, ag, rfl, H⟩⟩

def zbn (aa : List Flood) (ab : List Flood) : Nat -> M (Nat ⊕ (Unit ⊕ Unit)) := fun i =>
  bif decide ((i : Int) < (aa.length : Int)) then (
  M.grd (decide ((i : Int) < (aa.length : Int))) <|
  M.grd (decide ((i : Int) < (ab.length : Int))) <|
  M.bind (M.opt (!(((aa.getD i default).spring) != ((ab.getD i default).spring))) (zab ((aa.getD i default).stages) ((ab.getD i default).stages)) false) fun r6 =>
  bif ((((aa.getD i default).spring) != ((ab.getD i default).spring)) || (!r6)) then (
  M.pure (.inr (.inl ())))
  else (
  M.pure (.inl (i + 1))))
  else (
  M.pure (.inr (.inr ())))
def zb8 (ac : List Int) (ae : List Span) (ag : List Int) (ah : List Town) (ai : Int) (aj : Int) (aa : List Flood) (ak : List Int) (am : List Span) (ao : List Int) (ap : List Town) (aq : Int) (au : Int) (ab : List Flood) : M Bool :=
  M.bind (zab ac ak) fun r2 =>
  M.bind (M.opt (!(!r2)) (zbO ae am) false) fun r3 =>
  M.bind (M.opt (!((!r2) || (!r3))) (zab ag ao) false) fun r4 =>
  M.bind (M.opt (!(((!r2) || (!r3)) || (!r4))) (zb9 ah ap) false) fun r5 =>
  bif ((((((!r2) || (!r3)) || (!r4)) || (!r5)) || (!(decide ((⟨(ai : Int), (aj : Int)⟩ : Span) = (⟨(aq : Int), (au : Int)⟩ : Span))))) || ((aa.length : Int) != (ab.length : Int))) then (
  M.pure false)
  else (
  M.bind (M.iter (zbn aa ab) 0) fun x_ => match x_ with
  | (.inl (_ : Unit)) => (
  M.pure false)
  | (.inr (_ : Unit)) => (
  M.pure true))
theorem zdk {R : List Chunk} {aX : Cells} {aA : Value} {aY : Cells} {au : Value} {aZ : Cells} {av : Value} {a6 : Cells} {aw : Value} {a7 : Cells} {am : Value} {a8 : Cells} {aB : Value} {ba : Cells} {ax : Value} {bc : Cells} {ay : Value} {bf : Cells} {az : Value} {bg : Cells} {ao : Value} (aH : List Int) (aI : List Span) (aJ : List Int) (aK : List Town) (ag : Int) (ah : Int) (aa : List Flood) (aL : List Int) (aM : List Span) (aN : List Int) (aO : List Town) (ai : Int) (aj : Int) (ab : List Flood) (bm : Reads R aX) (bn : Sl aX aA aH) (bo : Reads R aY) (bp : Sl aY au aI) (bq : Reads R aZ) (br : Sl aZ av aJ) (bt : Reads R a6) (bu : Sl a6 aw aK) (aP : Reads R a7) (aq : Sl a7 am aa) (bv : Reads R a8) (bw : Sl a8 aB aL) (bx : Reads R ba) (bz : Sl ba ax aM) (bA : Reads R bc) (bB : Sl bc ay aN) (bC : Reads R bf) (bD : Sl bf az aO) (aQ : Reads R bg) (aC : Sl bg ao ab) {r : Bool} (hM : (zb8 aH aI aJ aK ag ah aa aL aM aN aO ai aj ab).Ends r) (w : World) (H : St w w [] R) : Ret Tryz.prog 18 #[.agg #[aA, au, av, aw, I ag, I ah, am], .agg #[aB, ax, ay, az, I ai, I aj, ao]] w fun v w' => ∃ (y0 : Bool), y0 = r /\ v = B y0 /\ St w w' [] R := by
 refine ret_of_W Tryz.func18 rfl rfl rfl ?_
 refine W.seq ?_
 refine W.region rfl ?_
 refine t_box (v := .agg #[aA, au, av, aw, I ag, I ah, am]) (cs := [aA, au, av, aw, I ag, I ah, am]) H rfl rfl ?_
 intro ac bT H
 refine t_box (v := .agg #[aB, ax, ay, az, I ai, I aj, ao]) (cs := [aB, ax, ay, az, I ai, I aj, ao]) H rfl rfl ?_
 intro ae bU H
 refine zA (B false) rfl ?_
 refine s_nil ?_
 refine W.seq ?_
 refine W.seq ?_
 refine W.region rfl ?_
 refine s_val (x_fa (a := Pq ac) (v := Pq ac) rfl (fa_blk (o := 0) Fd29_0 Sz22)) ?_
 refine s_val (x_ld (p := Pq ac) (v := aA) rfl (ldb_sc Sc22 (H.bl 1) rfl)) ?_
 refine s_val (x_fa (a := Pq ae) (v := Pq ae) rfl (fa_blk (o := 0) Fd29_0 Sz22)) ?_
 refine s_val (x_ld (p := Pq ae) (v := aB) rfl (ldb_sc Sc22 (H.bl 0) rfl)) ?_
 obtain ⟨bV, bE, hM⟩ := M.e_bind hM
 refine s_call cf15 [aA, aB] rfl (zac aH aL (bm.app _) bn (bv.app _) bw bE _ (H.gt 2)) ?_
 rintro vq bW ⟨r2, bF, hvq, bh⟩
 subst bF
 subst vq
 try dsimp only at hM
 replace H := H.bk bh
 clear bh
 refine s_val (x_not (b := r2) rfl) ?_
 refine zM (B (!r2)) rfl ?_
 refine g_val (!(!r2)) (gy_f rfl) (fun hg => x_fa (a := Pq ac) (v := Oq ac 1) rfl (fa_blk (o := 0) Fd29_1 Sz23)) ?_
 refine g_val (!(!r2)) (gy_f rfl) (fun hg => x_ld (p := Oq ac 1) (v := au) (gd_of (c := !(!r2)) hg (Oq ac 1)) (ldb_sc Sc23 (H.bl 1) rfl)) ?_
 refine g_val (!(!r2)) (gy_f rfl) (fun hg => x_fa (a := Pq ae) (v := Oq ae 1) rfl (fa_blk (o := 0) Fd29_1 Sz23)) ?_
 refine g_val (!(!r2)) (gy_f rfl) (fun hg => x_ld (p := Oq ae 1) (v := ax) (gd_of (c := !(!r2)) hg (Oq ae 1)) (ldb_sc Sc23 (H.bl 0) rfl)) ?_
 obtain ⟨r3, bG, hM⟩ := M.e_bind hM
 refine t_gcall (!(!r2)) (gy_f rfl) cf59 (B r3) (fun _ => [au, ax]) (fun hg => lst2 (gd_of (c := !(!r2)) hg (au)) (gd_of (c := !(!r2)) hg (ax))) H (fun hg => (zdz aI aM (bo.app _) bp (bx.app _) bz (M.e_opt bG hg) _ (H.give (A := []) rfl)).mono fun v_ w_ ⟨y_, ap, aD, H_⟩ => by subst ap; exact ⟨aD, H.via H_⟩) ?_
 intro bX H
 refine g_val (!(!r2)) (gy_f rfl) (fun hg => x_not (b := r3) (gd_of (c := !(!r2)) hg (B r3))) ?_
 refine s_val (x_por (b := !r2) (r := !r3) rfl rfl (fun hb => gd_of (c := !(!r2)) (by first | exact hb | (rw [hb]; rfl) | simp_all) (B (!r3)))) ?_
 refine zM (B ((!r2) || (!r3))) rfl ?_
 refine g_val (!((!r2) || (!r3))) (gy_f rfl) (fun hg => x_fa (a := Pq ac) (v := Oq ac 2) rfl (fa_blk (o := 0) Fd29_2 Sz22)) ?_
 refine g_val (!((!r2) || (!r3))) (gy_f rfl) (fun hg => x_ld (p := Oq ac 2) (v := av) (gd_of (c := !((!r2) || (!r3))) hg (Oq ac 2)) (ldb_sc Sc22 (H.bl 1) rfl)) ?_
 refine g_val (!((!r2) || (!r3))) (gy_f rfl) (fun hg => x_fa (a := Pq ae) (v := Oq ae 2) rfl (fa_blk (o := 0) Fd29_2 Sz22)) ?_
 refine g_val (!((!r2) || (!r3))) (gy_f rfl) (fun hg => x_ld (p := Oq ae 2) (v := ay) (gd_of (c := !((!r2) || (!r3))) hg (Oq ae 2)) (ldb_sc Sc22 (H.bl 0) rfl)) ?_
 obtain ⟨r4, bH, hM⟩ := M.e_bind hM
 refine t_gcall (!((!r2) || (!r3))) (gy_f rfl) cf15 (B r4) (fun _ => [av, ay]) (fun hg => lst2 (gd_of (c := !((!r2) || (!r3))) hg (av)) (gd_of (c := !((!r2) || (!r3))) hg (ay))) H (fun hg => (zac aJ aN (bq.app _) br (bA.app _) bB (M.e_opt bH hg) _ (H.give (A := []) rfl)).mono fun v_ w_ ⟨y_, ap, aD, H_⟩ => by subst ap; exact ⟨aD, H.via H_⟩) ?_
 intro bY H
 refine g_val (!((!r2) || (!r3))) (gy_f rfl) (fun hg => x_not (b := r4) (gd_of (c := !((!r2) || (!r3))) hg (B r4))) ?_
 refine s_val (x_por (b := ((!r2) || (!r3))) (r := !r4) rfl rfl (fun hb => gd_of (c := !((!r2) || (!r3))) (by first | exact hb | (rw [hb]; rfl) | simp_all) (B (!r4)))) ?_
 refine zM (B (((!r2) || (!r3)) || (!r4))) rfl ?_
 refine g_val (!(((!r2) || (!r3)) || (!r4))) (gy_f rfl) (fun hg => x_fa (a := Pq ac) (v := Oq ac 3) rfl (fa_blk (o := 0) Fd29_3 Sz24)) ?_
 refine g_val (!(((!r2) || (!r3)) || (!r4))) (gy_f rfl) (fun hg => x_ld (p := Oq ac 3) (v := aw) (gd_of (c := !(((!r2) || (!r3)) || (!r4))) hg (Oq ac 3)) (ldb_sc Sc24 (H.bl 1) rfl)) ?_
 refine g_val (!(((!r2) || (!r3)) || (!r4))) (gy_f rfl) (fun hg => x_fa (a := Pq ae) (v := Oq ae 3) rfl (fa_blk (o := 0) Fd29_3 Sz24)) ?_
 refine g_val (!(((!r2) || (!r3)) || (!r4))) (gy_f rfl) (fun hg => x_ld (p := Oq ae 3) (v := az) (gd_of (c := !(((!r2) || (!r3)) || (!r4))) hg (Oq ae 3)) (ldb_sc Sc24 (H.bl 0) rfl)) ?_
 obtain ⟨r5, bI, hM⟩ := M.e_bind hM
 refine t_gcall (!(((!r2) || (!r3)) || (!r4))) (gy_f rfl) cf60 (B r5) (fun _ => [aw, az]) (fun hg => lst2 (gd_of (c := !(((!r2) || (!r3)) || (!r4))) hg (aw)) (gd_of (c := !(((!r2) || (!r3)) || (!r4))) hg (az))) H (fun hg => (zdA aK aO (bt.app _) bu (bC.app _) bD (M.e_opt bI hg) _ (H.give (A := []) rfl)).mono fun v_ w_ ⟨y_, ap, aD, H_⟩ => by subst ap; exact ⟨aD, H.via H_⟩) ?_
 intro bZ H
 refine g_val (!(((!r2) || (!r3)) || (!r4))) (gy_f rfl) (fun hg => x_not (b := r5) (gd_of (c := !(((!r2) || (!r3)) || (!r4))) hg (B r5))) ?_
 refine s_val (x_por (b := (((!r2) || (!r3)) || (!r4))) (r := !r5) rfl rfl (fun hb => gd_of (c := !(((!r2) || (!r3)) || (!r4))) (by first | exact hb | (rw [hb]; rfl) | simp_all) (B (!r5)))) ?_
 refine zM (B ((((!r2) || (!r3)) || (!r4)) || (!r5))) rfl ?_
 refine g_val (!((((!r2) || (!r3)) || (!r4)) || (!r5))) (gy_f rfl) (fun hg => x_fa (a := Pq ac) (v := Oq ac 4) rfl (fa_blk (o := 0) Fd29_4 Sz26)) ?_
 refine g_val (!((((!r2) || (!r3)) || (!r4)) || (!r5))) (gy_f rfl) (fun hg => x_ld (p := Oq ac 4) (v := .agg #[I ag, I ah]) (gd_of (c := !((((!r2) || (!r3)) || (!r4)) || (!r5))) hg (Oq ac 4)) (ldb_ag (ds := [I ag, I ah]) Ag26 Sz26 (H.bl 1) rfl rfl)) ?_
 refine g_val (!((((!r2) || (!r3)) || (!r4)) || (!r5))) (gy_f rfl) (fun hg => x_fa (a := Pq ae) (v := Oq ae 4) rfl (fa_blk (o := 0) Fd29_4 Sz26)) ?_
 refine g_val (!((((!r2) || (!r3)) || (!r4)) || (!r5))) (gy_f rfl) (fun hg => x_ld (p := Oq ae 4) (v := .agg #[I ai, I aj]) (gd_of (c := !((((!r2) || (!r3)) || (!r4)) || (!r5))) hg (Oq ae 4)) (ldb_ag (ds := [I ai, I aj]) Ag26 Sz26 (H.bl 0) rfl rfl)) ?_
 refine g_val (!((((!r2) || (!r3)) || (!r4)) || (!r5))) (gy_f rfl) (fun hg => x_neS (eqT26 (⟨(ag : Int), (ah : Int)⟩ : Span) (⟨(ai : Int), (aj : Int)⟩ : Span) _) gdT26 (gd_of (c := !((((!r2) || (!r3)) || (!r4)) || (!r5))) hg (.agg #[I ag, I ah])) (gd_of (c := !((((!r2) || (!r3)) || (!r4)) || (!r5))) hg (.agg #[I ai, I aj]))) ?_
 refine s_val (x_por (b := ((((!r2) || (!r3)) || (!r4)) || (!r5))) (r := !(decide ((⟨(ag : Int), (ah : Int)⟩ : Span) = (⟨(ai : Int), (aj : Int)⟩ : Span)))) rfl rfl (fun hb => gd_of (c := !((((!r2) || (!r3)) || (!r4)) || (!r5))) (by first | exact hb | (rw [hb]; rfl) | simp_all) (B (!(decide ((⟨(ag : Int), (ah : Int)⟩ : Span) = (⟨(ai : Int), (aj : Int)⟩ : Span))))))) ?_
 refine zM (B (((((!r2) || (!r3)) || (!r4)) || (!r5)) || (!(decide ((⟨(ag : Int), (ah : Int)⟩ : Span) = (⟨(ai : Int), (aj : Int)⟩ : Span)))))) rfl ?_
 refine g_val (!(((((!r2) || (!r3)) || (!r4)) || (!r5)) || (!(decide ((⟨(ag : Int), (ah : Int)⟩ : Span) = (⟨(ai : Int), (aj : Int)⟩ : Span)))))) (gy_f rfl) (fun hg => x_fa (a := Pq ac) (v := Oq ac 6) rfl (fa_blk (o := 0) Fd29_5 Sz27)) ?_
 refine g_val (!(((((!r2) || (!r3)) || (!r4)) || (!r5)) || (!(decide ((⟨(ag : Int), (ah : Int)⟩ : Span) = (⟨(ai : Int), (aj : Int)⟩ : Span)))))) (gy_f rfl) (fun hg => x_ld (p := Oq ac 6) (v := am) (gd_of (c := !(((((!r2) || (!r3)) || (!r4)) || (!r5)) || (!(decide ((⟨(ag : Int), (ah : Int)⟩ : Span) = (⟨(ai : Int), (aj : Int)⟩ : Span)))))) hg (Oq ac 6)) (ldb_sc Sc27 (H.bl 1) rfl)) ?_
 have b3 := (aq).len_le
 refine g_val (!(((((!r2) || (!r3)) || (!r4)) || (!r5)) || (!(decide ((⟨(ag : Int), (ah : Int)⟩ : Span) = (⟨(ai : Int), (aj : Int)⟩ : Span)))))) (gy_f rfl) (fun hg => x_lenS T27.und (gd_of (c := !(((((!r2) || (!r3)) || (!r4)) || (!r5)) || (!(decide ((⟨(ag : Int), (ah : Int)⟩ : Span) = (⟨(ai : Int), (aj : Int)⟩ : Span)))))) hg (am)) aq) ?_
 refine g_val (!(((((!r2) || (!r3)) || (!r4)) || (!r5)) || (!(decide ((⟨(ag : Int), (ah : Int)⟩ : Span) = (⟨(ai : Int), (aj : Int)⟩ : Span)))))) (gy_f rfl) (fun hg => x_fa (a := Pq ae) (v := Oq ae 6) rfl (fa_blk (o := 0) Fd29_5 Sz27)) ?_
 refine g_val (!(((((!r2) || (!r3)) || (!r4)) || (!r5)) || (!(decide ((⟨(ag : Int), (ah : Int)⟩ : Span) = (⟨(ai : Int), (aj : Int)⟩ : Span)))))) (gy_f rfl) (fun hg => x_ld (p := Oq ae 6) (v := ao) (gd_of (c := !(((((!r2) || (!r3)) || (!r4)) || (!r5)) || (!(decide ((⟨(ag : Int), (ah : Int)⟩ : Span) = (⟨(ai : Int), (aj : Int)⟩ : Span)))))) hg (Oq ae 6)) (ldb_sc Sc27 (H.bl 0) rfl)) ?_
 have b4 := (aC).len_le
 refine g_val (!(((((!r2) || (!r3)) || (!r4)) || (!r5)) || (!(decide ((⟨(ag : Int), (ah : Int)⟩ : Span) = (⟨(ai : Int), (aj : Int)⟩ : Span)))))) (gy_f rfl) (fun hg => x_lenS T27.und (gd_of (c := !(((((!r2) || (!r3)) || (!r4)) || (!r5)) || (!(decide ((⟨(ag : Int), (ah : Int)⟩ : Span) = (⟨(ai : Int), (aj : Int)⟩ : Span)))))) hg (ao)) aC) ?_
 refine g_val (!(((((!r2) || (!r3)) || (!r4)) || (!r5)) || (!(decide ((⟨(ag : Int), (ah : Int)⟩ : Span) = (⟨(ai : Int), (aj : Int)⟩ : Span)))))) (gy_f rfl) (fun hg => x_cmp (kd := .i64) (a := (aa.length : Int)) (b := (ab.length : Int)) (r := (aa.length : Int) != (ab.length : Int)) (gd_of (c := !(((((!r2) || (!r3)) || (!r4)) || (!r5)) || (!(decide ((⟨(ag : Int), (ah : Int)⟩ : Span) = (⟨(ai : Int), (aj : Int)⟩ : Span)))))) hg (I (aa.length : Int))) (gd_of (c := !(((((!r2) || (!r3)) || (!r4)) || (!r5)) || (!(decide ((⟨(ag : Int), (ah : Int)⟩ : Span) = (⟨(ai : Int), (aj : Int)⟩ : Span)))))) hg (I (ab.length : Int))) rfl) ?_
 refine s_val (x_por (b := (((((!r2) || (!r3)) || (!r4)) || (!r5)) || (!(decide ((⟨(ag : Int), (ah : Int)⟩ : Span) = (⟨(ai : Int), (aj : Int)⟩ : Span)))))) (r := (aa.length : Int) != (ab.length : Int)) rfl rfl (fun hb => gd_of (c := !(((((!r2) || (!r3)) || (!r4)) || (!r5)) || (!(decide ((⟨(ag : Int), (ah : Int)⟩ : Span) = (⟨(ai : Int), (aj : Int)⟩ : Span)))))) (by first | exact hb | (rw [hb]; rfl) | simp_all) (B ((aa.length : Int) != (ab.length : Int))))) ?_
 refine s_nil ?_
 refine W.cond ((((((!r2) || (!r3)) || (!r4)) || (!r5)) || (!(decide ((⟨(ag : Int), (ah : Int)⟩ : Span) = (⟨(ai : Int), (aj : Int)⟩ : Span))))) || ((aa.length : Int) != (ab.length : Int))) rfl (fun aR => ?_) (fun aR => ?_)
 ·replace hM := M.e_t hM aR
  refine W.seq ?_
  refine W.region rfl ?_
  refine zA (B false) rfl ?_
  refine s_nil ?_
  replace H := H.pk []
  refine W.ret ?_
  have ap := M.e_pure hM
  exact ⟨_, resE_tmp rfl, ⟨false, ap, rfl, H⟩⟩
 replace hM := M.e_f hM aR
 refine W.skip ?_
 refine W.seq ?_
 refine W.seq ?_
 refine W.region rfl ?_
 refine zA (I 0) rfl ?_
 refine s_nil ?_
 refine W.block ?_
 obtain ⟨bJ, aS, bi⟩ := M.e_bind hM
 obtain ⟨b5, aS⟩ := M.e_iter aS
 refine W.loop (fun m σ W => ∃ (i : Nat) (ρ : Env), σ = upds ρ [(2, Pq ac), (3, Pq ae), (5, I (i : Int))] /\ M.iterN (zbn aa ab) m i = some bJ /\ St w W [cBlk ae [aB, ax, ay, az, I ai, I aj, ao] 29, cBlk ac [aA, au, av, aw, I ag, I ah, am] 29] R) ?_ ?_
 ·exact ⟨_, 0, _, upds_of _ _ ⟨rfl, rfl, rfl, trivial⟩, aS, H⟩
 rintro b6 σ b7 ⟨i, ρ, rfl, bj, H⟩
 obtain ⟨bK, bL, b8, hM, aT⟩ := M.e_iterN bj
 simp only [zbn] at hM
 clear bj
 refine W.seq ?_
 refine W.seq ?_
 refine W.region rfl ?_
 refine zM (I (i : Int)) rfl ?_
 refine s_val (x_fa (a := Pq ac) (v := Oq ac 6) rfl (fa_blk (o := 0) Fd29_5 Sz27)) ?_
 refine s_val (x_ld (p := Oq ac 6) (v := am) rfl (ldb_sc Sc27 (H.bl 1) rfl)) ?_
 have b9 := (aq).len_le
 refine s_val (x_lenS T27.und rfl aq) ?_
 refine zC (i : Int) (aa.length : Int) (decide ((i : Int) < (aa.length : Int))) rfl rfl rfl ?_
 refine s_nil ?_
 refine W.cond (decide ((i : Int) < (aa.length : Int))) rfl (fun aE => ?_) (fun aE => ?_)
 ·replace hM := M.e_t hM aE
  simp only [qy1, qy2, qy3, qy4, qy5, qy6, ne_eq, qy7] at aE
  refine W.skip ?_
  refine W.seq ?_
  refine W.block ?_
  refine W.seq ?_
  refine W.draw (fun W => St w W [cBlk ae [aB, ax, ay, az, I ai, I aj, ao] 29, cBlk ac [aA, au, av, aw, I ag, I ah, am] 29] R) [(0, true), (1, true), (2, true), (3, true), (4, true), (5, true), (6, true), (7, true), (8, true), (9, true), (10, true), (11, true), (12, true), (13, true), (14, true), (15, true), (16, true), (17, true), (18, true), (19, true), (20, true), (21, true), (22, true), (23, true), (24, true), (25, true), (26, false), (27, true), (28, true)] mixed (by decide +kernel) rfl ?_
  intro ca ak
  replace H := H.ext ak
  clear ak
  refine ⟨(H.pk [0, 1]), ?_⟩
  refine d_q rfl (fun w' H => x_fa (a := Pq ac) (v := Oq ac 6) rfl (fa_blk (o := 0) Fd29_5 Sz27)) ?_
  refine d_q rfl (fun w' H => x_ld (p := Oq ac 6) (v := am) rfl (ldb_sc Sc27 (H.bl 1) rfl)) ?_
  refine d_q rfl (fun w' H => x_mv (v := I (i : Int)) rfl) ?_
  obtain ⟨bM, hM⟩ := M.e_grd hM
  simp only [Bool.and_eq_true, decide_eq_true_eq] at bM
  refine d_q rfl (fun w' H => x_ix (a := am) (b := I (i : Int)) (v := vat am 2 (Int.toNat (i : Int))) rfl rfl (Sl.ix (α := Flood) T27.und T27.size aq (by omega) (by omega))) ?_
  refine d_q rfl (fun w' H => x_fa (a := vat am 2 (Int.toNat (i : Int))) (v := fat (vat am 2 (Int.toNat (i : Int))) 0) rfl (fa_pl Fd85_0 Sz3 (Sl.pl (i := (i : Int)) aq (by omega) (by omega)))) ?_
  refine d_q rfl (fun w' H => x_ld (p := fat (vat am 2 (Int.toNat (i : Int))) 0) (v := I ((aa.getD i default).spring)) rfl (ld_sc Sc3 (At.mono (Flood_at0 aq (i := (i : Int)) (by omega) (by omega)) (aP.at H)))) ?_
  refine d_q rfl (fun w' H => x_fa (a := Pq ae) (v := Oq ae 6) rfl (fa_blk (o := 0) Fd29_5 Sz27)) ?_
  refine d_q rfl (fun w' H => x_ld (p := Oq ae 6) (v := ao) rfl (ldb_sc Sc27 (H.bl 0) rfl)) ?_
  refine d_q rfl (fun w' H => x_mv (v := I (i : Int)) rfl) ?_
  obtain ⟨bN, hM⟩ := M.e_grd hM
  simp only [Bool.and_eq_true, decide_eq_true_eq] at bN
  refine d_q rfl (fun w' H => x_ix (a := ao) (b := I (i : Int)) (v := vat ao 2 (Int.toNat (i : Int))) rfl rfl (Sl.ix (α := Flood) T27.und T27.size aC (by omega) (by omega))) ?_
  refine d_q rfl (fun w' H => x_fa (a := vat ao 2 (Int.toNat (i : Int))) (v := fat (vat ao 2 (Int.toNat (i : Int))) 0) rfl (fa_pl Fd85_0 Sz3 (Sl.pl (i := (i : Int)) aC (by omega) (by omega)))) ?_
  refine d_q rfl (fun w' H => x_ld (p := fat (vat ao 2 (Int.toNat (i : Int))) 0) (v := I ((ab.getD i default).spring)) rfl (ld_sc Sc3 (At.mono (Flood_at0 aC (i := (i : Int)) (by omega) (by omega)) (aQ.at H)))) ?_
  refine d_q rfl (fun w' H => x_cmp (kd := .i64) (a := (aa.getD i default).spring) (b := (ab.getD i default).spring) (r := ((aa.getD i default).spring) != ((ab.getD i default).spring)) rfl rfl rfl) ?_
  refine d_q rfl (fun w' H => x_mv (v := B (((aa.getD i default).spring) != ((ab.getD i default).spring))) rfl) ?_
  refine d_qg (!(((aa.getD i default).spring) != ((ab.getD i default).spring))) rfl (gy_f rfl) (fun hg => (fun w' H => x_fa (a := Pq ac) (v := Oq ac 6) rfl (fa_blk (o := 0) Fd29_5 Sz27))) ?_
  refine d_qg (!(((aa.getD i default).spring) != ((ab.getD i default).spring))) rfl (gy_f rfl) (fun hg => (fun w' H => x_ld (p := Oq ac 6) (v := am) (gd_of (c := !(((aa.getD i default).spring) != ((ab.getD i default).spring))) hg (Oq ac 6)) (ldb_sc Sc27 (H.bl 1) rfl))) ?_
  refine d_qg (!(((aa.getD i default).spring) != ((ab.getD i default).spring))) rfl (gy_f rfl) (fun hg => (fun w' H => x_mv (v := I (i : Int)) rfl)) ?_
  refine d_qg (!(((aa.getD i default).spring) != ((ab.getD i default).spring))) rfl (gy_f rfl) (fun hg => (fun w' H => x_ix (a := am) (b := I (i : Int)) (v := vat am 2 (Int.toNat (i : Int))) (gd_of (c := !(((aa.getD i default).spring) != ((ab.getD i default).spring))) hg (am)) (gd_of (c := !(((aa.getD i default).spring) != ((ab.getD i default).spring))) hg (I (i : Int))) (Sl.ix (α := Flood) T27.und T27.size aq (by first | omega | (have ak := hg; simp at ak; omega)) (by first | omega | (have ak := hg; simp at ak; omega))))) ?_
  refine d_qg (!(((aa.getD i default).spring) != ((ab.getD i default).spring))) rfl (gy_f rfl) (fun hg => (fun w' H => x_fa (a := vat am 2 (Int.toNat (i : Int))) (v := fat (vat am 2 (Int.toNat (i : Int))) 1) (gd_of (c := !(((aa.getD i default).spring) != ((ab.getD i default).spring))) hg (vat am 2 (Int.toNat (i : Int)))) (fa_pl Fd85_1 Sz22 (Sl.pl (i := (i : Int)) aq (by first | omega | (have ak := hg; simp at ak; omega)) (by first | omega | (have ak := hg; simp at ak; omega)))))) ?_
  obtain ⟨aF, bO, aU⟩ := gd_ex (c := !(((aa.getD i default).spring) != ((ab.getD i default).spring))) fun hg => Flood_at1 aq (i := (i : Int)) (by first | omega | (have ak := hg; simp at ak; omega)) (by first | omega | (have ak := hg; simp at ak; omega))
  replace aU : (!(((aa.getD i default).spring) != ((ab.getD i default).spring))) = true -> Sl _ aF (aa.getD i default).stages := aU
  refine d_qg (!(((aa.getD i default).spring) != ((ab.getD i default).spring))) rfl (gy_f rfl) (fun hg => (fun w' H => x_ld (p := fat (vat am 2 (Int.toNat (i : Int))) 1) (v := aF) (gd_of (c := !(((aa.getD i default).spring) != ((ab.getD i default).spring))) hg (fat (vat am 2 (Int.toNat (i : Int))) 1)) (ld_sc Sc22 (At.mono (bO hg) (aP.at H))))) ?_
  refine d_qg (!(((aa.getD i default).spring) != ((ab.getD i default).spring))) rfl (gy_f rfl) (fun hg => (fun w' H => x_fa (a := Pq ae) (v := Oq ae 6) rfl (fa_blk (o := 0) Fd29_5 Sz27))) ?_
  refine d_qg (!(((aa.getD i default).spring) != ((ab.getD i default).spring))) rfl (gy_f rfl) (fun hg => (fun w' H => x_ld (p := Oq ae 6) (v := ao) (gd_of (c := !(((aa.getD i default).spring) != ((ab.getD i default).spring))) hg (Oq ae 6)) (ldb_sc Sc27 (H.bl 0) rfl))) ?_
  refine d_qg (!(((aa.getD i default).spring) != ((ab.getD i default).spring))) rfl (gy_f rfl) (fun hg => (fun w' H => x_mv (v := I (i : Int)) rfl)) ?_
  refine d_qg (!(((aa.getD i default).spring) != ((ab.getD i default).spring))) rfl (gy_f rfl) (fun hg => (fun w' H => x_ix (a := ao) (b := I (i : Int)) (v := vat ao 2 (Int.toNat (i : Int))) (gd_of (c := !(((aa.getD i default).spring) != ((ab.getD i default).spring))) hg (ao)) (gd_of (c := !(((aa.getD i default).spring) != ((ab.getD i default).spring))) hg (I (i : Int))) (Sl.ix (α := Flood) T27.und T27.size aC (by first | omega | (have ak := hg; simp at ak; omega)) (by first | omega | (have ak := hg; simp at ak; omega))))) ?_
  refine d_qg (!(((aa.getD i default).spring) != ((ab.getD i default).spring))) rfl (gy_f rfl) (fun hg => (fun w' H => x_fa (a := vat ao 2 (Int.toNat (i : Int))) (v := fat (vat ao 2 (Int.toNat (i : Int))) 1) (gd_of (c := !(((aa.getD i default).spring) != ((ab.getD i default).spring))) hg (vat ao 2 (Int.toNat (i : Int)))) (fa_pl Fd85_1 Sz22 (Sl.pl (i := (i : Int)) aC (by first | omega | (have ak := hg; simp at ak; omega)) (by first | omega | (have ak := hg; simp at ak; omega)))))) ?_
  obtain ⟨aG, bP, aV⟩ := gd_ex (c := !(((aa.getD i default).spring) != ((ab.getD i default).spring))) fun hg => Flood_at1 aC (i := (i : Int)) (by first | omega | (have ak := hg; simp at ak; omega)) (by first | omega | (have ak := hg; simp at ak; omega))
  replace aV : (!(((aa.getD i default).spring) != ((ab.getD i default).spring))) = true -> Sl _ aG (ab.getD i default).stages := aV
  refine d_qg (!(((aa.getD i default).spring) != ((ab.getD i default).spring))) rfl (gy_f rfl) (fun hg => (fun w' H => x_ld (p := fat (vat ao 2 (Int.toNat (i : Int))) 1) (v := aG) (gd_of (c := !(((aa.getD i default).spring) != ((ab.getD i default).spring))) hg (fat (vat ao 2 (Int.toNat (i : Int))) 1)) (ld_sc Sc22 (At.mono (bP hg) (aQ.at H))))) ?_
  refine d_l rfl ?_
  obtain ⟨r6, bQ, hM⟩ := M.e_bind hM
  refine t_gcall (!(((aa.getD i default).spring) != ((ab.getD i default).spring))) (gy_f rfl) cf15 (B r6) (fun _ => [aF, aG]) (fun hg => lst2 (gd_of (c := !(((aa.getD i default).spring) != ((ab.getD i default).spring))) hg (aF)) (gd_of (c := !(((aa.getD i default).spring) != ((ab.getD i default).spring))) hg (aG))) H (fun hg => (zac ((aa.getD i default).stages) ((ab.getD i default).stages) (aP.app _) (aU hg) (aQ.app _) (aV hg) (M.e_opt bQ hg) _ (H.give (A := []) rfl)).mono fun v_ w_ ⟨y_, ap, aD, H_⟩ => by subst ap; exact ⟨aD, H.via H_⟩) ?_
  intro cb H
  refine s_nil ⟨(H.pk [0, 1]), ?_⟩
  refine d_qg (!(((aa.getD i default).spring) != ((ab.getD i default).spring))) rfl (gy_f rfl) (fun hg => (fun w' H => x_not (b := r6) (gd_of (c := !(((aa.getD i default).spring) != ((ab.getD i default).spring))) hg (B r6)))) ?_
  refine d_q rfl (fun w' H => x_por (b := ((aa.getD i default).spring) != ((ab.getD i default).spring)) (r := !r6) rfl rfl (fun hb => gd_of (c := !(((aa.getD i default).spring) != ((ab.getD i default).spring))) (by first | exact hb | (rw [hb]; rfl) | simp_all) (B (!r6)))) ?_
  refine d_nil ?_
  refine W.cond ((((aa.getD i default).spring) != ((ab.getD i default).spring)) || (!r6)) rfl (fun aW => ?_) (fun aW => ?_)
  ·replace hM := M.e_t hM aW
   refine W.seq ?_
   refine W.region rfl ?_
   refine zA (B false) rfl ?_
   refine s_nil ?_
   refine W.ret ?_
   have bR := M.e_inr hM aT
   subst bR
   replace hM := bi
   try dsimp only at hM
   have ap := M.e_pure hM
   exact ⟨_, resE_tmp rfl, ⟨false, ap, rfl, (H.pk [])⟩⟩
  replace hM := M.e_f hM aW
  refine W.skip ?_
  refine W.region rfl ?_
  refine zM (I (i : Int)) rfl ?_
  refine zR (i : Int) 1 ((i : Int) + 1) rfl rfl rfl (by omega) ?_
  refine zA (I ((i : Int) + 1)) rfl ?_
  refine s_nil ?_
  exact ⟨bK, bL, i + 1, _, upds_of _ _ ⟨rfl, rfl, rfl, trivial⟩, M.e_inl hM aT, H⟩
 replace hM := M.e_f hM aE
 simp only [qy1, qy2, qy3, qy4, qy5, qy6, ne_eq, qy7] at aE
 refine W.exit ?_
 have bS := M.e_inr hM aT
 subst bS
 replace hM := bi
 try dsimp only at hM
 replace H := H.pk []
 refine W.seq ?_
 refine W.region rfl ?_
 refine zA (B true) rfl ?_
 refine s_nil ?_
 refine W.ret ?_
 have ap := M.e_pure hM
 exact ⟨_, resE_tmp rfl, ⟨true, ap, rfl, H⟩⟩

end Go.Proofs.YtbaehghammbjdaaGreat
end
section
set_option maxRecDepth 100000
set_option maxHeartbeats 16000000
namespace Go.Proofs.YtbaehghammbjdaaGreat
open Go Go.Nm
def zbr (aa : List Flood) : Nat -> M (Nat ⊕ (Unit ⊕ Unit)) := fun i =>
  bif decide ((i : Int) < (aa.length : Int)) then (
  M.grd (decide ((i : Int) < (aa.length : Int))) <|
  bif decide (15 < (((aa.getD i default).stages).length : Int)) then (
  M.pure (.inr (.inl ())))
  else (
  M.pure (.inl (i + 1))))
  else (
  M.pure (.inr (.inr ())))
def zbV (aa : List Int) (ac : List Span) (ae : List Int) (ag : List Town) (ah : Int) (ai : Int) (ab : List Flood) : M Bool :=
  bif (((((((decide (9 < (aa.length : Int))) && (decide ((aa.length : Int) < 13))) || (decide (15 < (aa.length : Int)))) || (decide (15 < (ac.length : Int)))) || (decide (10 < (ae.length : Int)))) || (decide (10 < (ag.length : Int)))) || (decide (22 < (ab.length : Int)))) then (
  M.pure true)
  else (
  M.bind (M.iter (zbr ab) 0) fun x_ => match x_ with
  | (.inl (_ : Unit)) => (
  M.pure true)
  | (.inr (_ : Unit)) => (
  M.pure false))
theorem zdQ {R : List Chunk} {aD : Cells} {aj : Value} {aE : Cells} {ak : Value} {aF : Cells} {am : Value} {aG : Cells} {ao : Value} {aH : Cells} {ai : Value} (aa : List Int) (ab : List Span) (ae : List Int) (ag : List Town) (au : Int) (av : Int) (ah : List Flood) (aW : Reads R aD) (aq : Sl aD aj aa) (aX : Reads R aE) (aI : Sl aE ak ab) (aY : Reads R aF) (aJ : Sl aF am ae) (aZ : Reads R aG) (aK : Sl aG ao ag) (aO : Reads R aH) (ap : Sl aH ai ah) {r : Bool} (hM : (zbV aa ab ae ag au av ah).Ends r) (w : World) (H : St w w [] R) : Ret Tryz.prog 6 #[.agg #[aj, ak, am, ao, I au, I av, ai]] w fun v w' => ∃ (y0 : Bool), y0 = r /\ v = B y0 /\ St w w' [] R := by
 refine ret_of_W Tryz.func6 rfl rfl rfl ?_
 refine W.seq ?_
 refine W.region rfl ?_
 refine t_box (v := .agg #[aj, ak, am, ao, I au, I av, ai]) (cs := [aj, ak, am, ao, I au, I av, ai]) H rfl rfl ?_
 intro ac a6 H
 refine zA (B false) rfl ?_
 refine s_nil ?_
 refine W.seq ?_
 refine W.seq ?_
 refine W.region rfl ?_
 refine s_val (x_fa (a := Pq ac) (v := Pq ac) rfl (fa_blk (o := 0) Fd29_0 Sz22)) ?_
 refine s_val (x_ld (p := Pq ac) (v := aj) rfl (ldb_sc Sc22 (H.bl 0) rfl)) ?_
 have a7 := (aq).len_le
 refine s_val (x_lenS T22.und rfl aq) ?_
 refine zC (aa.length : Int) 9 (decide (9 < (aa.length : Int))) rfl rfl rfl ?_
 refine zM (B (decide (9 < (aa.length : Int)))) rfl ?_
 refine g_val (decide (9 < (aa.length : Int))) (gy_t rfl) (fun hg => x_fa (a := Pq ac) (v := Pq ac) rfl (fa_blk (o := 0) Fd29_0 Sz22)) ?_
 refine g_val (decide (9 < (aa.length : Int))) (gy_t rfl) (fun hg => x_ld (p := Pq ac) (v := aj) (gd_of (c := decide (9 < (aa.length : Int))) hg (Pq ac)) (ldb_sc Sc22 (H.bl 0) rfl)) ?_
 have a8 := (aq).len_le
 refine g_val (decide (9 < (aa.length : Int))) (gy_t rfl) (fun hg => x_lenS T22.und (gd_of (c := decide (9 < (aa.length : Int))) hg (aj)) aq) ?_
 refine g_val (decide (9 < (aa.length : Int))) (gy_t rfl) (fun hg => x_cmp (kd := .i64) (a := (aa.length : Int)) (b := 13) (r := decide ((aa.length : Int) < 13)) (gd_of (c := decide (9 < (aa.length : Int))) hg (I (aa.length : Int))) rfl rfl) ?_
 refine s_val (x_pand (b := decide (9 < (aa.length : Int))) (r := decide ((aa.length : Int) < 13)) rfl (fun hb => gd_of (c := decide (9 < (aa.length : Int))) (by first | exact hb | (rw [hb]; rfl) | simp_all) (B (decide ((aa.length : Int) < 13)))) rfl) ?_
 refine zM (B ((decide (9 < (aa.length : Int))) && (decide ((aa.length : Int) < 13)))) rfl ?_
 refine g_val (!((decide (9 < (aa.length : Int))) && (decide ((aa.length : Int) < 13)))) (gy_f rfl) (fun hg => x_fa (a := Pq ac) (v := Pq ac) rfl (fa_blk (o := 0) Fd29_0 Sz22)) ?_
 refine g_val (!((decide (9 < (aa.length : Int))) && (decide ((aa.length : Int) < 13)))) (gy_f rfl) (fun hg => x_ld (p := Pq ac) (v := aj) (gd_of (c := !((decide (9 < (aa.length : Int))) && (decide ((aa.length : Int) < 13)))) hg (Pq ac)) (ldb_sc Sc22 (H.bl 0) rfl)) ?_
 have ba := (aq).len_le
 refine g_val (!((decide (9 < (aa.length : Int))) && (decide ((aa.length : Int) < 13)))) (gy_f rfl) (fun hg => x_lenS T22.und (gd_of (c := !((decide (9 < (aa.length : Int))) && (decide ((aa.length : Int) < 13)))) hg (aj)) aq) ?_
 refine g_val (!((decide (9 < (aa.length : Int))) && (decide ((aa.length : Int) < 13)))) (gy_f rfl) (fun hg => x_cmp (kd := .i64) (a := (aa.length : Int)) (b := 15) (r := decide (15 < (aa.length : Int))) (gd_of (c := !((decide (9 < (aa.length : Int))) && (decide ((aa.length : Int) < 13)))) hg (I (aa.length : Int))) rfl rfl) ?_
 refine s_val (x_por (b := ((decide (9 < (aa.length : Int))) && (decide ((aa.length : Int) < 13)))) (r := decide (15 < (aa.length : Int))) rfl rfl (fun hb => gd_of (c := !((decide (9 < (aa.length : Int))) && (decide ((aa.length : Int) < 13)))) (by first | exact hb | (rw [hb]; rfl) | simp_all) (B (decide (15 < (aa.length : Int)))))) ?_
 refine zM (B (((decide (9 < (aa.length : Int))) && (decide ((aa.length : Int) < 13))) || (decide (15 < (aa.length : Int))))) rfl ?_
 refine g_val (!(((decide (9 < (aa.length : Int))) && (decide ((aa.length : Int) < 13))) || (decide (15 < (aa.length : Int))))) (gy_f rfl) (fun hg => x_fa (a := Pq ac) (v := Oq ac 1) rfl (fa_blk (o := 0) Fd29_1 Sz23)) ?_
 refine g_val (!(((decide (9 < (aa.length : Int))) && (decide ((aa.length : Int) < 13))) || (decide (15 < (aa.length : Int))))) (gy_f rfl) (fun hg => x_ld (p := Oq ac 1) (v := ak) (gd_of (c := !(((decide (9 < (aa.length : Int))) && (decide ((aa.length : Int) < 13))) || (decide (15 < (aa.length : Int))))) hg (Oq ac 1)) (ldb_sc Sc23 (H.bl 0) rfl)) ?_
 have bc := (aI).len_le
 refine g_val (!(((decide (9 < (aa.length : Int))) && (decide ((aa.length : Int) < 13))) || (decide (15 < (aa.length : Int))))) (gy_f rfl) (fun hg => x_lenS T23.und (gd_of (c := !(((decide (9 < (aa.length : Int))) && (decide ((aa.length : Int) < 13))) || (decide (15 < (aa.length : Int))))) hg (ak)) aI) ?_
 refine g_val (!(((decide (9 < (aa.length : Int))) && (decide ((aa.length : Int) < 13))) || (decide (15 < (aa.length : Int))))) (gy_f rfl) (fun hg => x_cmp (kd := .i64) (a := (ab.length : Int)) (b := 15) (r := decide (15 < (ab.length : Int))) (gd_of (c := !(((decide (9 < (aa.length : Int))) && (decide ((aa.length : Int) < 13))) || (decide (15 < (aa.length : Int))))) hg (I (ab.length : Int))) rfl rfl) ?_
 refine s_val (x_por (b := (((decide (9 < (aa.length : Int))) && (decide ((aa.length : Int) < 13))) || (decide (15 < (aa.length : Int))))) (r := decide (15 < (ab.length : Int))) rfl rfl (fun hb => gd_of (c := !(((decide (9 < (aa.length : Int))) && (decide ((aa.length : Int) < 13))) || (decide (15 < (aa.length : Int))))) (by first | exact hb | (rw [hb]; rfl) | simp_all) (B (decide (15 < (ab.length : Int)))))) ?_
 refine zM (B ((((decide (9 < (aa.length : Int))) && (decide ((aa.length : Int) < 13))) || (decide (15 < (aa.length : Int)))) || (decide (15 < (ab.length : Int))))) rfl ?_
 refine g_val (!((((decide (9 < (aa.length : Int))) && (decide ((aa.length : Int) < 13))) || (decide (15 < (aa.length : Int)))) || (decide (15 < (ab.length : Int))))) (gy_f rfl) (fun hg => x_fa (a := Pq ac) (v := Oq ac 2) rfl (fa_blk (o := 0) Fd29_2 Sz22)) ?_
 refine g_val (!((((decide (9 < (aa.length : Int))) && (decide ((aa.length : Int) < 13))) || (decide (15 < (aa.length : Int)))) || (decide (15 < (ab.length : Int))))) (gy_f rfl) (fun hg => x_ld (p := Oq ac 2) (v := am) (gd_of (c := !((((decide (9 < (aa.length : Int))) && (decide ((aa.length : Int) < 13))) || (decide (15 < (aa.length : Int)))) || (decide (15 < (ab.length : Int))))) hg (Oq ac 2)) (ldb_sc Sc22 (H.bl 0) rfl)) ?_
 have bf := (aJ).len_le
 refine g_val (!((((decide (9 < (aa.length : Int))) && (decide ((aa.length : Int) < 13))) || (decide (15 < (aa.length : Int)))) || (decide (15 < (ab.length : Int))))) (gy_f rfl) (fun hg => x_lenS T22.und (gd_of (c := !((((decide (9 < (aa.length : Int))) && (decide ((aa.length : Int) < 13))) || (decide (15 < (aa.length : Int)))) || (decide (15 < (ab.length : Int))))) hg (am)) aJ) ?_
 refine g_val (!((((decide (9 < (aa.length : Int))) && (decide ((aa.length : Int) < 13))) || (decide (15 < (aa.length : Int)))) || (decide (15 < (ab.length : Int))))) (gy_f rfl) (fun hg => x_cmp (kd := .i64) (a := (ae.length : Int)) (b := 10) (r := decide (10 < (ae.length : Int))) (gd_of (c := !((((decide (9 < (aa.length : Int))) && (decide ((aa.length : Int) < 13))) || (decide (15 < (aa.length : Int)))) || (decide (15 < (ab.length : Int))))) hg (I (ae.length : Int))) rfl rfl) ?_
 refine s_val (x_por (b := ((((decide (9 < (aa.length : Int))) && (decide ((aa.length : Int) < 13))) || (decide (15 < (aa.length : Int)))) || (decide (15 < (ab.length : Int))))) (r := decide (10 < (ae.length : Int))) rfl rfl (fun hb => gd_of (c := !((((decide (9 < (aa.length : Int))) && (decide ((aa.length : Int) < 13))) || (decide (15 < (aa.length : Int)))) || (decide (15 < (ab.length : Int))))) (by first | exact hb | (rw [hb]; rfl) | simp_all) (B (decide (10 < (ae.length : Int)))))) ?_
 refine zM (B (((((decide (9 < (aa.length : Int))) && (decide ((aa.length : Int) < 13))) || (decide (15 < (aa.length : Int)))) || (decide (15 < (ab.length : Int)))) || (decide (10 < (ae.length : Int))))) rfl ?_
 refine g_val (!(((((decide (9 < (aa.length : Int))) && (decide ((aa.length : Int) < 13))) || (decide (15 < (aa.length : Int)))) || (decide (15 < (ab.length : Int)))) || (decide (10 < (ae.length : Int))))) (gy_f rfl) (fun hg => x_fa (a := Pq ac) (v := Oq ac 3) rfl (fa_blk (o := 0) Fd29_3 Sz24)) ?_
 refine g_val (!(((((decide (9 < (aa.length : Int))) && (decide ((aa.length : Int) < 13))) || (decide (15 < (aa.length : Int)))) || (decide (15 < (ab.length : Int)))) || (decide (10 < (ae.length : Int))))) (gy_f rfl) (fun hg => x_ld (p := Oq ac 3) (v := ao) (gd_of (c := !(((((decide (9 < (aa.length : Int))) && (decide ((aa.length : Int) < 13))) || (decide (15 < (aa.length : Int)))) || (decide (15 < (ab.length : Int)))) || (decide (10 < (ae.length : Int))))) hg (Oq ac 3)) (ldb_sc Sc24 (H.bl 0) rfl)) ?_
 have bg := (aK).len_le
 refine g_val (!(((((decide (9 < (aa.length : Int))) && (decide ((aa.length : Int) < 13))) || (decide (15 < (aa.length : Int)))) || (decide (15 < (ab.length : Int)))) || (decide (10 < (ae.length : Int))))) (gy_f rfl) (fun hg => x_lenS T24.und (gd_of (c := !(((((decide (9 < (aa.length : Int))) && (decide ((aa.length : Int) < 13))) || (decide (15 < (aa.length : Int)))) || (decide (15 < (ab.length : Int)))) || (decide (10 < (ae.length : Int))))) hg (ao)) aK) ?_
 refine g_val (!(((((decide (9 < (aa.length : Int))) && (decide ((aa.length : Int) < 13))) || (decide (15 < (aa.length : Int)))) || (decide (15 < (ab.length : Int)))) || (decide (10 < (ae.length : Int))))) (gy_f rfl) (fun hg => x_cmp (kd := .i64) (a := (ag.length : Int)) (b := 10) (r := decide (10 < (ag.length : Int))) (gd_of (c := !(((((decide (9 < (aa.length : Int))) && (decide ((aa.length : Int) < 13))) || (decide (15 < (aa.length : Int)))) || (decide (15 < (ab.length : Int)))) || (decide (10 < (ae.length : Int))))) hg (I (ag.length : Int))) rfl rfl) ?_
 refine s_val (x_por (b := (((((decide (9 < (aa.length : Int))) && (decide ((aa.length : Int) < 13))) || (decide (15 < (aa.length : Int)))) || (decide (15 < (ab.length : Int)))) || (decide (10 < (ae.length : Int))))) (r := decide (10 < (ag.length : Int))) rfl rfl (fun hb => gd_of (c := !(((((decide (9 < (aa.length : Int))) && (decide ((aa.length : Int) < 13))) || (decide (15 < (aa.length : Int)))) || (decide (15 < (ab.length : Int)))) || (decide (10 < (ae.length : Int))))) (by first | exact hb | (rw [hb]; rfl) | simp_all) (B (decide (10 < (ag.length : Int)))))) ?_
 refine zM (B ((((((decide (9 < (aa.length : Int))) && (decide ((aa.length : Int) < 13))) || (decide (15 < (aa.length : Int)))) || (decide (15 < (ab.length : Int)))) || (decide (10 < (ae.length : Int)))) || (decide (10 < (ag.length : Int))))) rfl ?_
 refine g_val (!((((((decide (9 < (aa.length : Int))) && (decide ((aa.length : Int) < 13))) || (decide (15 < (aa.length : Int)))) || (decide (15 < (ab.length : Int)))) || (decide (10 < (ae.length : Int)))) || (decide (10 < (ag.length : Int))))) (gy_f rfl) (fun hg => x_fa (a := Pq ac) (v := Oq ac 6) rfl (fa_blk (o := 0) Fd29_5 Sz27)) ?_
 refine g_val (!((((((decide (9 < (aa.length : Int))) && (decide ((aa.length : Int) < 13))) || (decide (15 < (aa.length : Int)))) || (decide (15 < (ab.length : Int)))) || (decide (10 < (ae.length : Int)))) || (decide (10 < (ag.length : Int))))) (gy_f rfl) (fun hg => x_ld (p := Oq ac 6) (v := ai) (gd_of (c := !((((((decide (9 < (aa.length : Int))) && (decide ((aa.length : Int) < 13))) || (decide (15 < (aa.length : Int)))) || (decide (15 < (ab.length : Int)))) || (decide (10 < (ae.length : Int)))) || (decide (10 < (ag.length : Int))))) hg (Oq ac 6)) (ldb_sc Sc27 (H.bl 0) rfl)) ?_
 have bh := (ap).len_le
 refine g_val (!((((((decide (9 < (aa.length : Int))) && (decide ((aa.length : Int) < 13))) || (decide (15 < (aa.length : Int)))) || (decide (15 < (ab.length : Int)))) || (decide (10 < (ae.length : Int)))) || (decide (10 < (ag.length : Int))))) (gy_f rfl) (fun hg => x_lenS T27.und (gd_of (c := !((((((decide (9 < (aa.length : Int))) && (decide ((aa.length : Int) < 13))) || (decide (15 < (aa.length : Int)))) || (decide (15 < (ab.length : Int)))) || (decide (10 < (ae.length : Int)))) || (decide (10 < (ag.length : Int))))) hg (ai)) ap) ?_
 refine g_val (!((((((decide (9 < (aa.length : Int))) && (decide ((aa.length : Int) < 13))) || (decide (15 < (aa.length : Int)))) || (decide (15 < (ab.length : Int)))) || (decide (10 < (ae.length : Int)))) || (decide (10 < (ag.length : Int))))) (gy_f rfl) (fun hg => x_cmp (kd := .i64) (a := (ah.length : Int)) (b := 22) (r := decide (22 < (ah.length : Int))) (gd_of (c := !((((((decide (9 < (aa.length : Int))) && (decide ((aa.length : Int) < 13))) || (decide (15 < (aa.length : Int)))) || (decide (15 < (ab.length : Int)))) || (decide (10 < (ae.length : Int)))) || (decide (10 < (ag.length : Int))))) hg (I (ah.length : Int))) rfl rfl) ?_
 refine s_val (x_por (b := ((((((decide (9 < (aa.length : Int))) && (decide ((aa.length : Int) < 13))) || (decide (15 < (aa.length : Int)))) || (decide (15 < (ab.length : Int)))) || (decide (10 < (ae.length : Int)))) || (decide (10 < (ag.length : Int))))) (r := decide (22 < (ah.length : Int))) rfl rfl (fun hb => gd_of (c := !((((((decide (9 < (aa.length : Int))) && (decide ((aa.length : Int) < 13))) || (decide (15 < (aa.length : Int)))) || (decide (15 < (ab.length : Int)))) || (decide (10 < (ae.length : Int)))) || (decide (10 < (ag.length : Int))))) (by first | exact hb | (rw [hb]; rfl) | simp_all) (B (decide (22 < (ah.length : Int)))))) ?_
 refine s_nil ?_
 refine W.cond (((((((decide (9 < (aa.length : Int))) && (decide ((aa.length : Int) < 13))) || (decide (15 < (aa.length : Int)))) || (decide (15 < (ab.length : Int)))) || (decide (10 < (ae.length : Int)))) || (decide (10 < (ag.length : Int)))) || (decide (22 < (ah.length : Int)))) rfl (fun aA => ?_) (fun aA => ?_)
 ·replace hM := M.e_t hM aA
  refine W.seq ?_
  refine W.region rfl ?_
  refine zA (B true) rfl ?_
  refine s_nil ?_
  refine W.ret ?_
  have aw := M.e_pure hM
  exact ⟨_, resE_tmp rfl, ⟨true, aw, rfl, (H.pk [])⟩⟩
 replace hM := M.e_f hM aA
 refine W.skip ?_
 refine W.seq ?_
 refine W.seq ?_
 refine W.region rfl ?_
 refine zA (I 0) rfl ?_
 refine s_nil ?_
 refine W.block ?_
 obtain ⟨aP, aB, aL⟩ := M.e_bind hM
 obtain ⟨bi, aB⟩ := M.e_iter aB
 refine W.loop (fun m σ W => ∃ (i : Nat) (ρ : Env), σ = upds ρ [(1, Pq ac), (3, I (i : Int))] /\ M.iterN (zbr ah) m i = some aP /\ St w W [cBlk ac [aj, ak, am, ao, I au, I av, ai] 29] R) ?_ ?_
 ·exact ⟨_, 0, _, upds_of _ _ ⟨rfl, rfl, trivial⟩, aB, H⟩
 rintro bj σ bm ⟨i, ρ, rfl, aM, H⟩
 obtain ⟨aQ, aR, bn, hM, aC⟩ := M.e_iterN aM
 simp only [zbr] at hM
 clear aM
 refine W.seq ?_
 refine W.seq ?_
 refine W.region rfl ?_
 refine zM (I (i : Int)) rfl ?_
 refine s_val (x_fa (a := Pq ac) (v := Oq ac 6) rfl (fa_blk (o := 0) Fd29_5 Sz27)) ?_
 refine s_val (x_ld (p := Oq ac 6) (v := ai) rfl (ldb_sc Sc27 (H.bl 0) rfl)) ?_
 have bo := (ap).len_le
 refine s_val (x_lenS T27.und rfl ap) ?_
 refine zC (i : Int) (ah.length : Int) (decide ((i : Int) < (ah.length : Int))) rfl rfl rfl ?_
 refine s_nil ?_
 refine W.cond (decide ((i : Int) < (ah.length : Int))) rfl (fun ax => ?_) (fun ax => ?_)
 ·replace hM := M.e_t hM ax
  simp only [qy1, qy2, qy3, qy4, qy5, qy6, ne_eq, qy7] at ax
  refine W.skip ?_
  refine W.seq ?_
  refine W.block ?_
  refine W.seq ?_
  refine W.region rfl ?_
  refine s_val (x_fa (a := Pq ac) (v := Oq ac 6) rfl (fa_blk (o := 0) Fd29_5 Sz27)) ?_
  refine s_val (x_ld (p := Oq ac 6) (v := ai) rfl (ldb_sc Sc27 (H.bl 0) rfl)) ?_
  refine zM (I (i : Int)) rfl ?_
  obtain ⟨aS, hM⟩ := M.e_grd hM
  simp only [Bool.and_eq_true, decide_eq_true_eq] at aS
  refine s_val (x_ix (a := ai) (b := I (i : Int)) (v := vat ai 2 (Int.toNat (i : Int))) rfl rfl (Sl.ix (α := Flood) T27.und T27.size ap (by omega) (by omega))) ?_
  refine s_val (x_fa (a := vat ai 2 (Int.toNat (i : Int))) (v := fat (vat ai 2 (Int.toNat (i : Int))) 1) rfl (fa_pl Fd85_1 Sz22 (Sl.pl (i := (i : Int)) ap (by omega) (by omega)))) ?_
  obtain ⟨aN, aT, ay⟩ := Flood_at1 ap (i := (i : Int)) (by omega) (by omega)
  replace ay : Sl _ aN (ah.getD i default).stages := ay
  have bp := ay.len_le
  refine s_val (x_ld (p := fat (vat ai 2 (Int.toNat (i : Int))) 1) (v := aN) rfl (ld_sc Sc22 (At.mono (aT) (aO.at H)))) ?_
  have bq := (ay).len_le
  refine s_val (x_lenS T22.und rfl ay) ?_
  refine zC (((ah.getD i default).stages).length : Int) 15 (decide (15 < (((ah.getD i default).stages).length : Int))) rfl rfl rfl ?_
  refine s_nil ?_
  refine W.cond (decide (15 < (((ah.getD i default).stages).length : Int))) rfl (fun az => ?_) (fun az => ?_)
  ·replace hM := M.e_t hM az
   simp only [qy1, qy2, qy3, qy4, qy5, qy6, ne_eq, qy7] at az
   refine W.seq ?_
   refine W.region rfl ?_
   refine zA (B true) rfl ?_
   refine s_nil ?_
   refine W.ret ?_
   have aU := M.e_inr hM aC
   subst aU
   replace hM := aL
   try dsimp only at hM
   have aw := M.e_pure hM
   exact ⟨_, resE_tmp rfl, ⟨true, aw, rfl, (H.pk [])⟩⟩
  replace hM := M.e_f hM az
  simp only [qy1, qy2, qy3, qy4, qy5, qy6, ne_eq, qy7] at az
  refine W.skip ?_
  refine W.region rfl ?_
  refine zM (I (i : Int)) rfl ?_
  refine zR (i : Int) 1 ((i : Int) + 1) rfl rfl rfl (by omega) ?_
  refine zA (I ((i : Int) + 1)) rfl ?_
  refine s_nil ?_
  exact ⟨aQ, aR, i + 1, _, upds_of _ _ ⟨rfl, rfl, trivial⟩, M.e_inl hM aC, H⟩
 replace hM := M.e_f hM ax
 simp only [qy1, qy2, qy3, qy4, qy5, qy6, ne_eq, qy7] at ax
 refine W.exit ?_
 have aV := M.e_inr hM aC
 subst aV
 replace hM := aL
 try dsimp only at hM
 refine W.seq ?_
 refine W.region rfl ?_
 refine zA (B false) rfl ?_
 refine s_nil ?_
 refine W.ret ?_
 have aw := M.e_pure hM
 exact ⟨_, resE_tmp rfl, ⟨false, aw, rfl, (H.pk [])⟩⟩

end Go.Proofs.YtbaehghammbjdaaGreat
end
