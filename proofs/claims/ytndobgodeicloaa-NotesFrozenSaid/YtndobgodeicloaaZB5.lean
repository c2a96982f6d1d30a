/- Part 5 of the texts on which the proof rests. Conditions: none. -/
import Derived.Laws.Cover3
import Derived.Test.YtndobgodeicloaaZB4
set_option linter.unusedVariables false
set_option linter.unusedSimpArgs false
set_option linter.unusedSectionVars false
section
set_option maxRecDepth 100000
set_option maxHeartbeats 16000000
namespace Go.Proofs.Ytndobgodeicloaa
open Go Go.Nm
def za9 : M Bool :=
  M.bind (zae) fun r2 =>
  M.bind (M.pure (valuesR r2 ([(⟨(0 : Int), (2 : Int), (7 : Int)⟩ : Note), (⟨(1 : Int), (0 : Int), (9 : Int)⟩ : Note)]), valuesE r2 ([(⟨(0 : Int), (2 : Int), (7 : Int)⟩ : Note), (⟨(1 : Int), (0 : Int), (9 : Int)⟩ : Note)]))) fun (l, e) =>
  M.bind (zae) fun r3 =>
  M.bind (M.pure (staleR r3 ([(0 : Int)]), askedE r3 ([(0 : Int)]))) fun (l2, e2) =>
  M.bind (zae) fun r4 =>
  M.bind (M.pure (readyR r4 ([(1 : Int)]), askedE r4 ([(1 : Int)]))) fun (l3, e3) =>
  M.bind (zae) fun r5 =>
  M.bind (M.pure (longestR r5 ([(0 : Int)]), longestE r5 ([(0 : Int)]))) fun (l4, e4) =>
  M.bind (M.pure (decide (l = ([(7 : Int), (9 : Int), (26 : Int), (10 : Int), (47 : Int), (48 : Int)])))) fun s =>
  M.bind (M.pure (decide (l2 = ([(0 : Int), (2 : Int), (4 : Int), (5 : Int)])))) fun s2 =>
  M.bind (M.pure (decide (l3 = ([(-1 : Int), (6 : Int), (16 : Int), (36 : Int), (56 : Int), (57 : Int)])))) fun s3 =>
  M.bind (M.pure (decide (l4 = ([(0 : Int), (2 : Int), (4 : Int), (5 : Int)])))) fun s4 =>
  bif ((((((((e != 0) || (e2 != 0)) || (e3 != 0)) || (e4 != 0)) || (!s)) || (!s2)) || (!s3)) || (!s4)) then (
  M.pure false)
  else (
  M.bind (zae) fun r6 =>
  M.bind (zbf r6 ([(0 : Int)]) ([(0 : Int), (2 : Int), (4 : Int), (5 : Int)])) fun (r0, r1) =>
  M.bind (zae) fun r7 =>
  M.bind (zbf r7 ([(0 : Int)]) ([(0 : Int), (2 : Int), (4 : Int)])) fun (ab, ac) =>
  M.bind (zae) fun r8 =>
  M.bind (zas r8 ([(1 : Int)]) 4) fun (ae, ag) =>
  M.bind (zae) fun r9 =>
  M.bind (zaP r9 ([(1 : Int)]) 4) fun (ah, ai) =>
  M.bind (zae) fun aj =>
  M.bind (zas aj ([(1 : Int)]) 3) fun (al, ak) =>
  M.bind (M.pure (decide (ae = ([(2 : Int), (3 : Int)])))) fun s5 =>
  bif (((((((((r1 != 0) || (ac != 0)) || (ag != 0)) || (ai != 0)) || (ak != 5)) || (!r0)) || ab) || (!s5)) || ((ah.length : Int) != 2)) then (
  M.pure false)
  else (
  M.bind (zae) fun aa =>
  M.bind (M.pure (withdrawnR aa ([(⟨(0 : Int), (3 : Int), (8 : Int)⟩ : Note), (⟨(0 : Int), (2 : Int), (7 : Int)⟩ : Note), (⟨(1 : Int), (0 : Int), (9 : Int)⟩ : Note)]) ([(⟨(2 : Int), (26 : Int)⟩ : Pub), (⟨(3 : Int), (10 : Int)⟩ : Pub)]), withdrawnE aa ([(⟨(0 : Int), (3 : Int), (8 : Int)⟩ : Note), (⟨(0 : Int), (2 : Int), (7 : Int)⟩ : Note), (⟨(1 : Int), (0 : Int), (9 : Int)⟩ : Note)]) ([(⟨(2 : Int), (26 : Int)⟩ : Pub), (⟨(3 : Int), (10 : Int)⟩ : Pub)]))) fun (l5, e5) =>
  M.bind (M.pure (decide (l5 = ([(0 : Int)])))) fun s6 =>
  M.pure ((e5 == 0) && s6)))
theorem zbQ {R : List Chunk}    {r : Bool} (hM : (za9).Ends r) (w : World) (H : St w w [] R) : Ret Try.prog 17 #[] w fun v w' => ∃ (y0 : Bool), y0 = r /\ v = B y0 /\ St w w' [] R := by
 refine ret_of_W Try.func17 rfl rfl rfl ?_
 refine sQ rfl <| sA (B false) rfl <| s_nil <| sQ rfl ?_
 obtain ⟨dA, bR, hM⟩ := M.e_bind hM
 refine s_call cf79 [] rfl (zai bR _ (St.give (T := []) H rfl)) ?_
 rintro vq bS ⟨r2, ah, ai, aj, bT, hvq, ae, bU⟩
 subst bT
 subst vq
 try dsimp only at hM
 replace H : St w bS [cOwn (α := Raw 2) 60 ah ai, cRo aj] R := H.back ae rfl
 clear ae
 refine s_val (x_bld (ps := [(0, I 0), (1, I 2), (2, I 7)]) (zs := [I 0, I 0, I 0]) (L' := [I 0, I 2, I 7]) rfl Try.underlying30 Al30 rfl (Bd30 Try.underlying30) (.cons (cs := [I 0]) rfl rfl rfl rfl rfl <| .cons (cs := [I 2]) rfl rfl rfl rfl rfl <| .cons (cs := [I 7]) rfl rfl rfl rfl rfl <| .nil)) <| s_val (x_bld (ps := [(0, I 1), (2, I 9)]) (zs := [I 0, I 0, I 0]) (L' := [I 1, I 0, I 9]) rfl Try.underlying30 Al30 rfl (Bd30 Try.underlying30) (.cons (cs := [I 1]) rfl rfl rfl rfl rfl <| .cons (cs := [I 9]) rfl rfl rfl rfl rfl <| .nil)) ?_
 refine t_bs (α := Note) T23 [.agg #[I 0, I 2, I 7], .agg #[I 1, I 0, I 9]] [(⟨(0 : Int), (2 : Int), (7 : Int)⟩ : Note), (⟨(1 : Int), (0 : Int), (9 : Int)⟩ : Note)] H rfl (.cons rfl (Flat.rep_enc _ (⟨(0 : Int), (2 : Int), (7 : Int)⟩ : Note)) <| .cons rfl (Flat.rep_enc _ (⟨(1 : Int), (0 : Int), (9 : Int)⟩ : Note)) <| .nil) rfl rfl rfl ?_
 intro ak dB H
 obtain ⟨⟨l, e⟩, bV, hM⟩ := M.e_bind hM
 obtain ⟨bW, bX⟩ := Prod.mk.inj (M.e_pure bV)
 try dsimp only at hM
 refine s_call cf21 [ah, ak] rfl (by have aW := (Values_any _ ((rowSl rfl (H.get (k := 1) rfl) (roLe _ (H.get (k := 2) rfl)) bU).mono (Cells.sup_le (ownLe _ (H.get (k := 1) rfl)) (roLe _ (H.get (k := 2) rfl)))) ((ownSl (H.get (k := 0) rfl)).mono (ownLe _ (H.get (k := 0) rfl)))); rw [bW, bX] at aW; exact aW) ?_
 rintro _ dC ⟨bf, rfl, bu, av⟩
 obtain ⟨al, H, bu⟩ := H.fresh av bu
 clear av
 have dD := bu.len_le
 refine sM (.tuple #[bf, I e]) rfl <| sX [bf, I e] bf rfl rfl <| sX [bf, I e] (I e) rfl rfl <| sA bf rfl <| sA (I e) rfl <| s_nil <| sQ rfl ?_
 obtain ⟨dE, bY, hM⟩ := M.e_bind hM
 refine s_call cf79 [] rfl (zai bY _ (St.give (T := [cRo al, cOwn (α := Note) 30 ak ([(⟨(0 : Int), (2 : Int), (7 : Int)⟩ : Note), (⟨(1 : Int), (0 : Int), (9 : Int)⟩ : Note)]), cOwn (α := Raw 2) 60 ah ai, cRo aj]) H rfl)) ?_
 rintro vq bZ ⟨r3, am, ao, ap, b6, hvq, ae, b8⟩
 subst b6
 subst vq
 try dsimp only at hM
 replace H : St w bZ [cOwn (α := Raw 2) 60 am ao, cRo ap, cRo al, cOwn (α := Note) 30 ak ([(⟨(0 : Int), (2 : Int), (7 : Int)⟩ : Note), (⟨(1 : Int), (0 : Int), (9 : Int)⟩ : Note)]), cOwn (α := Raw 2) 60 ah ai, cRo aj] R := H.back ae rfl
 clear ae
 refine t_bs (α := Int) T34 [I 0] [(0 : Int)] H rfl (.cons rfl (Flat.rep_enc _ (0 : Int)) <| .nil) rfl rfl rfl ?_
 intro aq dF H
 obtain ⟨⟨l2, e2⟩, ca, hM⟩ := M.e_bind hM
 obtain ⟨cb, cc⟩ := Prod.mk.inj (M.e_pure ca)
 try dsimp only at hM
 refine s_call cf32 [am, aq] rfl (by have aW := (Stale_any _ ((rowSl rfl (H.get (k := 1) rfl) (roLe _ (H.get (k := 2) rfl)) b8).mono (Cells.sup_le (ownLe _ (H.get (k := 1) rfl)) (roLe _ (H.get (k := 2) rfl)))) ((ownSl (H.get (k := 0) rfl)).mono (ownLe _ (H.get (k := 0) rfl)))); rw [cb, cc] at aW; exact aW) ?_
 rintro _ dG ⟨bg, rfl, bv, av⟩
 obtain ⟨aw, H, bv⟩ := H.fresh av bv
 clear av
 have dH := bv.len_le
 refine sM (.tuple #[bg, I e2]) rfl <| sX [bg, I e2] bg rfl rfl <| sX [bg, I e2] (I e2) rfl rfl <| sA bg rfl <| sA (I e2) rfl <| s_nil <| sQ rfl ?_
 obtain ⟨dI, cd, hM⟩ := M.e_bind hM
 refine s_call cf79 [] rfl (zai cd _ (St.give (T := [cRo aw, cOwn (α := Int) 3 aq ([(0 : Int)]), cOwn (α := Raw 2) 60 am ao, cRo ap, cRo al, cOwn (α := Note) 30 ak ([(⟨(0 : Int), (2 : Int), (7 : Int)⟩ : Note), (⟨(1 : Int), (0 : Int), (9 : Int)⟩ : Note)]), cOwn (α := Raw 2) 60 ah ai, cRo aj]) H rfl)) ?_
 rintro vq ce ⟨r4, ax, ay, az, cf, hvq, ae, cg⟩
 subst cf
 subst vq
 try dsimp only at hM
 replace H : St w ce [cOwn (α := Raw 2) 60 ax ay, cRo az, cRo aw, cOwn (α := Int) 3 aq ([(0 : Int)]), cOwn (α := Raw 2) 60 am ao, cRo ap, cRo al, cOwn (α := Note) 30 ak ([(⟨(0 : Int), (2 : Int), (7 : Int)⟩ : Note), (⟨(1 : Int), (0 : Int), (9 : Int)⟩ : Note)]), cOwn (α := Raw 2) 60 ah ai, cRo aj] R := H.back ae rfl
 clear ae
 refine t_bs (α := Int) T34 [I 1] [(1 : Int)] H rfl (.cons rfl (Flat.rep_enc _ (1 : Int)) <| .nil) rfl rfl rfl ?_
 intro aA dJ H
 obtain ⟨⟨l3, e3⟩, ci, hM⟩ := M.e_bind hM
 obtain ⟨cj, ck⟩ := Prod.mk.inj (M.e_pure ci)
 try dsimp only at hM
 refine s_call cf36 [ax, aA] rfl (by have aW := (Ready_any _ ((rowSl rfl (H.get (k := 1) rfl) (roLe _ (H.get (k := 2) rfl)) cg).mono (Cells.sup_le (ownLe _ (H.get (k := 1) rfl)) (roLe _ (H.get (k := 2) rfl)))) ((ownSl (H.get (k := 0) rfl)).mono (ownLe _ (H.get (k := 0) rfl)))); rw [cj, ck] at aW; exact aW) ?_
 rintro _ dK ⟨bh, rfl, bw, av⟩
 obtain ⟨aB, H, bw⟩ := H.fresh av bw
 clear av
 have dL := bw.len_le
 refine sM (.tuple #[bh, I e3]) rfl <| sX [bh, I e3] bh rfl rfl <| sX [bh, I e3] (I e3) rfl rfl <| sA bh rfl <| sA (I e3) rfl <| s_nil <| sQ rfl ?_
 obtain ⟨dM, cm, hM⟩ := M.e_bind hM
 refine s_call cf79 [] rfl (zai cm _ (St.give (T := [cRo aB, cOwn (α := Int) 3 aA ([(1 : Int)]), cOwn (α := Raw 2) 60 ax ay, cRo az, cRo aw, cOwn (α := Int) 3 aq ([(0 : Int)]), cOwn (α := Raw 2) 60 am ao, cRo ap, cRo al, cOwn (α := Note) 30 ak ([(⟨(0 : Int), (2 : Int), (7 : Int)⟩ : Note), (⟨(1 : Int), (0 : Int), (9 : Int)⟩ : Note)]), cOwn (α := Raw 2) 60 ah ai, cRo aj]) H rfl)) ?_
 rintro vq cn ⟨r5, aC, aD, aE, co, hvq, ae, cp⟩
 subst co
 subst vq
 try dsimp only at hM
 replace H : St w cn [cOwn (α := Raw 2) 60 aC aD, cRo aE, cRo aB, cOwn (α := Int) 3 aA ([(1 : Int)]), cOwn (α := Raw 2) 60 ax ay, cRo az, cRo aw, cOwn (α := Int) 3 aq ([(0 : Int)]), cOwn (α := Raw 2) 60 am ao, cRo ap, cRo al, cOwn (α := Note) 30 ak ([(⟨(0 : Int), (2 : Int), (7 : Int)⟩ : Note), (⟨(1 : Int), (0 : Int), (9 : Int)⟩ : Note)]), cOwn (α := Raw 2) 60 ah ai, cRo aj] R := H.back ae rfl
 clear ae
 refine t_bs (α := Int) T34 [I 0] [(0 : Int)] H rfl (.cons rfl (Flat.rep_enc _ (0 : Int)) <| .nil) rfl rfl rfl ?_
 intro aF dN H
 obtain ⟨⟨l4, e4⟩, cq, hM⟩ := M.e_bind hM
 obtain ⟨cr, ct⟩ := Prod.mk.inj (M.e_pure cq)
 try dsimp only at hM
 refine s_call cf38 [aC, aF] rfl (by have aW := (Longest_any _ ((rowSl rfl (H.get (k := 1) rfl) (roLe _ (H.get (k := 2) rfl)) cp).mono (Cells.sup_le (ownLe _ (H.get (k := 1) rfl)) (roLe _ (H.get (k := 2) rfl)))) ((ownSl (H.get (k := 0) rfl)).mono (ownLe _ (H.get (k := 0) rfl)))); rw [cr, ct] at aW; exact aW) ?_
 rintro _ dO ⟨bi, rfl, bx, av⟩
 obtain ⟨aG, H, bx⟩ := H.fresh av bx
 clear av
 have dP := bx.len_le
 refine sM (.tuple #[bi, I e4]) rfl <| sX [bi, I e4] bi rfl rfl <| sX [bi, I e4] (I e4) rfl rfl <| sA bi rfl <| sA (I e4) rfl <| s_nil <| W.seq <| sQ rfl <| sM (I e) rfl <| sC e 0 (e != 0) rfl rfl rfl <| sM (B (e != 0)) rfl ?_
 refine g_val (!(e != 0)) (gy_f rfl) (fun hg => x_mv (v := I e2) rfl) <| g_val (!(e != 0)) (gy_f rfl) (fun hg => x_cmp (kd := .i64) (a := e2) (b := 0) (r := e2 != 0) (gd_of (c := !(e != 0)) hg (I e2)) rfl rfl) <| s_val (x_por (b := e != 0) (r := e2 != 0) rfl rfl (fun hb => gd_of (c := !(e != 0)) (by first | exact hb | (rw [hb]; rfl) | simp_all) (B (e2 != 0)))) <| sM (B ((e != 0) || (e2 != 0))) rfl <| g_val (!((e != 0) || (e2 != 0))) (gy_f rfl) (fun hg => x_mv (v := I e3) rfl) <| g_val (!((e != 0) || (e2 != 0))) (gy_f rfl) (fun hg => x_cmp (kd := .i64) (a := e3) (b := 0) (r := e3 != 0) (gd_of (c := !((e != 0) || (e2 != 0))) hg (I e3)) rfl rfl) <| s_val (x_por (b := ((e != 0) || (e2 != 0))) (r := e3 != 0) rfl rfl (fun hb => gd_of (c := !((e != 0) || (e2 != 0))) (by first | exact hb | (rw [hb]; rfl) | simp_all) (B (e3 != 0)))) <| sM (B (((e != 0) || (e2 != 0)) || (e3 != 0))) rfl <| g_val (!(((e != 0) || (e2 != 0)) || (e3 != 0))) (gy_f rfl) (fun hg => x_mv (v := I e4) rfl) <| g_val (!(((e != 0) || (e2 != 0)) || (e3 != 0))) (gy_f rfl) (fun hg => x_cmp (kd := .i64) (a := e4) (b := 0) (r := e4 != 0) (gd_of (c := !(((e != 0) || (e2 != 0)) || (e3 != 0))) hg (I e4)) rfl rfl) <| s_val (x_por (b := (((e != 0) || (e2 != 0)) || (e3 != 0))) (r := e4 != 0) rfl rfl (fun hb => gd_of (c := !(((e != 0) || (e2 != 0)) || (e3 != 0))) (by first | exact hb | (rw [hb]; rfl) | simp_all) (B (e4 != 0)))) <| sM (B ((((e != 0) || (e2 != 0)) || (e3 != 0)) || (e4 != 0))) rfl ?_
 refine g_val (!((((e != 0) || (e2 != 0)) || (e3 != 0)) || (e4 != 0))) (gy_f rfl) (fun hg => x_mv (v := bf) rfl) ?_
 refine t_gbs (α := Int) T34 (!((((e != 0) || (e2 != 0)) || (e3 != 0)) || (e4 != 0))) (gy_f rfl) [I 7, I 9, I 26, I 10, I 47, I 48] [(7 : Int), (9 : Int), (26 : Int), (10 : Int), (47 : Int), (48 : Int)] H (fun _ => rfl) (.cons rfl (Flat.rep_enc _ _) <| .cons rfl (Flat.rep_enc _ _) <| .cons rfl (Flat.rep_enc _ _) <| .cons rfl (Flat.rep_enc _ _) <| .cons rfl (Flat.rep_enc _ _) <| .cons rfl (Flat.rep_enc _ _) <| .nil) rfl rfl rfl ?_
 intro bJ aH dQ H cu
 obtain ⟨s, bA, hM⟩ := M.e_bind hM
 replace bA := M.e_pure bA
 refine t_gcall (!((((e != 0) || (e2 != 0)) || (e3 != 0)) || (e4 != 0))) (gy_f rfl) cf25 (B s) (fun _ => [bf, bJ]) (fun hg => lst2 (gd_of (c := !((((e != 0) || (e2 != 0)) || (e3 != 0)) || (e4 != 0))) hg (bf)) (gd_of (c := !((((e != 0) || (e2 != 0)) || (e3 != 0)) || (e4 != 0))) hg (bJ))) H (fun hg => Ret.mono (same_int _ (bu.mono (roLe _ (H.get (k := 13) rfl))) ((cu hg).mono (roLe _ (H.get (k := 0) rfl)))) fun v_ w_ ⟨a7, av⟩ => ⟨a7.trans (congrArg B bA), H.ext av⟩) ?_
 intro dR H
 refine g_val (!((((e != 0) || (e2 != 0)) || (e3 != 0)) || (e4 != 0))) (gy_f rfl) (fun hg => x_not (b := s) (gd_of (c := !((((e != 0) || (e2 != 0)) || (e3 != 0)) || (e4 != 0))) hg (B s))) <| s_val (x_por (b := ((((e != 0) || (e2 != 0)) || (e3 != 0)) || (e4 != 0))) (r := !s) rfl rfl (fun hb => gd_of (c := !((((e != 0) || (e2 != 0)) || (e3 != 0)) || (e4 != 0))) (by first | exact hb | (rw [hb]; rfl) | simp_all) (B (!s)))) <| sM (B (((((e != 0) || (e2 != 0)) || (e3 != 0)) || (e4 != 0)) || (!s))) rfl <| g_val (!(((((e != 0) || (e2 != 0)) || (e3 != 0)) || (e4 != 0)) || (!s))) (gy_f rfl) (fun hg => x_mv (v := bg) rfl) ?_
 refine t_gbs (α := Int) T34 (!(((((e != 0) || (e2 != 0)) || (e3 != 0)) || (e4 != 0)) || (!s))) (gy_f rfl) [I 0, I 2, I 4, I 5] [(0 : Int), (2 : Int), (4 : Int), (5 : Int)] H (fun _ => rfl) (.cons rfl (Flat.rep_enc _ _) <| .cons rfl (Flat.rep_enc _ _) <| .cons rfl (Flat.rep_enc _ _) <| .cons rfl (Flat.rep_enc _ _) <| .nil) rfl rfl rfl ?_
 intro bK aI dS H cv
 obtain ⟨s2, bB, hM⟩ := M.e_bind hM
 replace bB := M.e_pure bB
 refine t_gcall (!(((((e != 0) || (e2 != 0)) || (e3 != 0)) || (e4 != 0)) || (!s))) (gy_f rfl) cf25 (B s2) (fun _ => [bg, bK]) (fun hg => lst2 (gd_of (c := !(((((e != 0) || (e2 != 0)) || (e3 != 0)) || (e4 != 0)) || (!s))) hg (bg)) (gd_of (c := !(((((e != 0) || (e2 != 0)) || (e3 != 0)) || (e4 != 0)) || (!s))) hg (bK))) H (fun hg => Ret.mono (same_int _ (bv.mono (roLe _ (H.get (k := 10) rfl))) ((cv hg).mono (roLe _ (H.get (k := 0) rfl)))) fun v_ w_ ⟨a7, av⟩ => ⟨a7.trans (congrArg B bB), H.ext av⟩) ?_
 intro dT H
 refine g_val (!(((((e != 0) || (e2 != 0)) || (e3 != 0)) || (e4 != 0)) || (!s))) (gy_f rfl) (fun hg => x_not (b := s2) (gd_of (c := !(((((e != 0) || (e2 != 0)) || (e3 != 0)) || (e4 != 0)) || (!s))) hg (B s2))) <| s_val (x_por (b := (((((e != 0) || (e2 != 0)) || (e3 != 0)) || (e4 != 0)) || (!s))) (r := !s2) rfl rfl (fun hb => gd_of (c := !(((((e != 0) || (e2 != 0)) || (e3 != 0)) || (e4 != 0)) || (!s))) (by first | exact hb | (rw [hb]; rfl) | simp_all) (B (!s2)))) <| sM (B ((((((e != 0) || (e2 != 0)) || (e3 != 0)) || (e4 != 0)) || (!s)) || (!s2))) rfl <| g_val (!((((((e != 0) || (e2 != 0)) || (e3 != 0)) || (e4 != 0)) || (!s)) || (!s2))) (gy_f rfl) (fun hg => x_mv (v := bh) rfl) ?_
 refine t_gbs (α := Int) T34 (!((((((e != 0) || (e2 != 0)) || (e3 != 0)) || (e4 != 0)) || (!s)) || (!s2))) (gy_f rfl) [I (-1), I 6, I 16, I 36, I 56, I 57] [(-1 : Int), (6 : Int), (16 : Int), (36 : Int), (56 : Int), (57 : Int)] H (fun _ => rfl) (.cons rfl (Flat.rep_enc _ _) <| .cons rfl (Flat.rep_enc _ _) <| .cons rfl (Flat.rep_enc _ _) <| .cons rfl (Flat.rep_enc _ _) <| .cons rfl (Flat.rep_enc _ _) <| .cons rfl (Flat.rep_enc _ _) <| .nil) rfl rfl rfl ?_
 intro bL aJ dU H cw
 obtain ⟨s3, bC, hM⟩ := M.e_bind hM
 replace bC := M.e_pure bC
 refine t_gcall (!((((((e != 0) || (e2 != 0)) || (e3 != 0)) || (e4 != 0)) || (!s)) || (!s2))) (gy_f rfl) cf25 (B s3) (fun _ => [bh, bL]) (fun hg => lst2 (gd_of (c := !((((((e != 0) || (e2 != 0)) || (e3 != 0)) || (e4 != 0)) || (!s)) || (!s2))) hg (bh)) (gd_of (c := !((((((e != 0) || (e2 != 0)) || (e3 != 0)) || (e4 != 0)) || (!s)) || (!s2))) hg (bL))) H (fun hg => Ret.mono (same_int _ (bw.mono (roLe _ (H.get (k := 7) rfl))) ((cw hg).mono (roLe _ (H.get (k := 0) rfl)))) fun v_ w_ ⟨a7, av⟩ => ⟨a7.trans (congrArg B bC), H.ext av⟩) ?_
 intro dV H
 refine g_val (!((((((e != 0) || (e2 != 0)) || (e3 != 0)) || (e4 != 0)) || (!s)) || (!s2))) (gy_f rfl) (fun hg => x_not (b := s3) (gd_of (c := !((((((e != 0) || (e2 != 0)) || (e3 != 0)) || (e4 != 0)) || (!s)) || (!s2))) hg (B s3))) <| s_val (x_por (b := ((((((e != 0) || (e2 != 0)) || (e3 != 0)) || (e4 != 0)) || (!s)) || (!s2))) (r := !s3) rfl rfl (fun hb => gd_of (c := !((((((e != 0) || (e2 != 0)) || (e3 != 0)) || (e4 != 0)) || (!s)) || (!s2))) (by first | exact hb | (rw [hb]; rfl) | simp_all) (B (!s3)))) <| sM (B (((((((e != 0) || (e2 != 0)) || (e3 != 0)) || (e4 != 0)) || (!s)) || (!s2)) || (!s3))) rfl <| g_val (!(((((((e != 0) || (e2 != 0)) || (e3 != 0)) || (e4 != 0)) || (!s)) || (!s2)) || (!s3))) (gy_f rfl) (fun hg => x_mv (v := bi) rfl) ?_
 refine t_gbs (α := Int) T34 (!(((((((e != 0) || (e2 != 0)) || (e3 != 0)) || (e4 != 0)) || (!s)) || (!s2)) || (!s3))) (gy_f rfl) [I 0, I 2, I 4, I 5] [(0 : Int), (2 : Int), (4 : Int), (5 : Int)] H (fun _ => rfl) (.cons rfl (Flat.rep_enc _ _) <| .cons rfl (Flat.rep_enc _ _) <| .cons rfl (Flat.rep_enc _ _) <| .cons rfl (Flat.rep_enc _ _) <| .nil) rfl rfl rfl ?_
 intro bM aK dW H cx
 obtain ⟨s4, bD, hM⟩ := M.e_bind hM
 replace bD := M.e_pure bD
 refine t_gcall (!(((((((e != 0) || (e2 != 0)) || (e3 != 0)) || (e4 != 0)) || (!s)) || (!s2)) || (!s3))) (gy_f rfl) cf25 (B s4) (fun _ => [bi, bM]) (fun hg => lst2 (gd_of (c := !(((((((e != 0) || (e2 != 0)) || (e3 != 0)) || (e4 != 0)) || (!s)) || (!s2)) || (!s3))) hg (bi)) (gd_of (c := !(((((((e != 0) || (e2 != 0)) || (e3 != 0)) || (e4 != 0)) || (!s)) || (!s2)) || (!s3))) hg (bM))) H (fun hg => Ret.mono (same_int _ (bx.mono (roLe _ (H.get (k := 4) rfl))) ((cx hg).mono (roLe _ (H.get (k := 0) rfl)))) fun v_ w_ ⟨a7, av⟩ => ⟨a7.trans (congrArg B bD), H.ext av⟩) ?_
 intro dX H
 refine g_val (!(((((((e != 0) || (e2 != 0)) || (e3 != 0)) || (e4 != 0)) || (!s)) || (!s2)) || (!s3))) (gy_f rfl) (fun hg => x_not (b := s4) (gd_of (c := !(((((((e != 0) || (e2 != 0)) || (e3 != 0)) || (e4 != 0)) || (!s)) || (!s2)) || (!s3))) hg (B s4))) <| s_val (x_por (b := (((((((e != 0) || (e2 != 0)) || (e3 != 0)) || (e4 != 0)) || (!s)) || (!s2)) || (!s3))) (r := !s4) rfl rfl (fun hb => gd_of (c := !(((((((e != 0) || (e2 != 0)) || (e3 != 0)) || (e4 != 0)) || (!s)) || (!s2)) || (!s3))) (by first | exact hb | (rw [hb]; rfl) | simp_all) (B (!s4)))) <| s_nil ?_
 refine W.cond ((((((((e != 0) || (e2 != 0)) || (e3 != 0)) || (e4 != 0)) || (!s)) || (!s2)) || (!s3)) || (!s4)) rfl (fun bE => ?_) (fun bE => ?_)
 ·replace hM := M.e_t hM bE
  refine sQ rfl <| sA (B false) rfl <| s_nil ?_
  refine W.ret ?_
  have bp := M.e_pure hM
  exact ⟨_, resE_tmp rfl, ⟨false, bp, rfl, (H.pick [] (by decide) rfl)⟩⟩
 replace hM := M.e_f hM bE
 refine W.skip <| sQ rfl ?_
 obtain ⟨dY, cy, hM⟩ := M.e_bind hM
 refine s_call cf79 [] rfl (zai cy _ (St.give (T := [cRo aK, cRo aJ, cRo aI, cRo aH, cRo aG, cOwn (α := Int) 3 aF ([(0 : Int)]), cOwn (α := Raw 2) 60 aC aD, cRo aE, cRo aB, cOwn (α := Int) 3 aA ([(1 : Int)]), cOwn (α := Raw 2) 60 ax ay, cRo az, cRo aw, cOwn (α := Int) 3 aq ([(0 : Int)]), cOwn (α := Raw 2) 60 am ao, cRo ap, cRo al, cOwn (α := Note) 30 ak ([(⟨(0 : Int), (2 : Int), (7 : Int)⟩ : Note), (⟨(1 : Int), (0 : Int), (9 : Int)⟩ : Note)]), cOwn (α := Raw 2) 60 ah ai, cRo aj]) H rfl)) ?_
 rintro vq cz ⟨r6, aL, aM, aN, cA, hvq, ae, cB⟩
 subst cA
 subst vq
 try dsimp only at hM
 replace H : St w cz [cOwn (α := Raw 2) 60 aL aM, cRo aN, cRo aK, cRo aJ, cRo aI, cRo aH, cRo aG, cOwn (α := Int) 3 aF ([(0 : Int)]), cOwn (α := Raw 2) 60 aC aD, cRo aE, cRo aB, cOwn (α := Int) 3 aA ([(1 : Int)]), cOwn (α := Raw 2) 60 ax ay, cRo az, cRo aw, cOwn (α := Int) 3 aq ([(0 : Int)]), cOwn (α := Raw 2) 60 am ao, cRo ap, cRo al, cOwn (α := Note) 30 ak ([(⟨(0 : Int), (2 : Int), (7 : Int)⟩ : Note), (⟨(1 : Int), (0 : Int), (9 : Int)⟩ : Note)]), cOwn (α := Raw 2) 60 ah ai, cRo aj] R := H.back ae rfl
 clear ae
 refine t_bs (α := Int) T34 [I 0] [(0 : Int)] H rfl (.cons rfl (Flat.rep_enc _ (0 : Int)) <| .nil) rfl rfl rfl ?_
 intro aO dZ H
 refine t_bs (α := Int) T34 [I 0, I 2, I 4, I 5] [(0 : Int), (2 : Int), (4 : Int), (5 : Int)] H rfl (.cons rfl (Flat.rep_enc _ (0 : Int)) <| .cons rfl (Flat.rep_enc _ (2 : Int)) <| .cons rfl (Flat.rep_enc _ (4 : Int)) <| .cons rfl (Flat.rep_enc _ (5 : Int)) <| .nil) rfl rfl rfl ?_
 intro aP d3 H
 obtain ⟨d4, cC, hM⟩ := M.e_bind hM
 refine s_call cf34 [aL, aO, aP] rfl (zbW r6 ([(0 : Int)]) ([(0 : Int), (2 : Int), (4 : Int), (5 : Int)]) (Reads.sup (Reads.of (k := 2) rfl ownLe) (Reads.of (k := 3) rfl roLe)) (rowSl rfl (H.get (k := 2) rfl) (roLe _ (H.get (k := 3) rfl)) cB) (Reads.of (k := 1) rfl ownLe) (ownSl (H.get (k := 1) rfl)) (Reads.of (k := 0) rfl ownLe) (ownSl (H.get (k := 0) rfl)) cC _ (St.give (T := [cOwn (α := Int) 3 aP ([(0 : Int), (2 : Int), (4 : Int), (5 : Int)]), cOwn (α := Int) 3 aO ([(0 : Int)]), cOwn (α := Raw 2) 60 aL aM, cRo aN, cRo aK, cRo aJ, cRo aI, cRo aH, cRo aG, cOwn (α := Int) 3 aF ([(0 : Int)]), cOwn (α := Raw 2) 60 aC aD, cRo aE, cRo aB, cOwn (α := Int) 3 aA ([(1 : Int)]), cOwn (α := Raw 2) 60 ax ay, cRo az, cRo aw, cOwn (α := Int) 3 aq ([(0 : Int)]), cOwn (α := Raw 2) 60 am ao, cRo ap, cRo al, cOwn (α := Note) 30 ak ([(⟨(0 : Int), (2 : Int), (7 : Int)⟩ : Note), (⟨(1 : Int), (0 : Int), (9 : Int)⟩ : Note)]), cOwn (α := Raw 2) 60 ah ai, cRo aj]) H rfl)) ?_
 rintro vq cD ⟨r0, r1, cE, hvq, ae⟩
 subst cE
 subst vq
 try dsimp only at hM
 replace H : St w cD [cOwn (α := Int) 3 aP ([(0 : Int), (2 : Int), (4 : Int), (5 : Int)]), cOwn (α := Int) 3 aO ([(0 : Int)]), cOwn (α := Raw 2) 60 aL aM, cRo aN, cRo aK, cRo aJ, cRo aI, cRo aH, cRo aG, cOwn (α := Int) 3 aF ([(0 : Int)]), cOwn (α := Raw 2) 60 aC aD, cRo aE, cRo aB, cOwn (α := Int) 3 aA ([(1 : Int)]), cOwn (α := Raw 2) 60 ax ay, cRo az, cRo aw, cOwn (α := Int) 3 aq ([(0 : Int)]), cOwn (α := Raw 2) 60 am ao, cRo ap, cRo al, cOwn (α := Note) 30 ak ([(⟨(0 : Int), (2 : Int), (7 : Int)⟩ : Note), (⟨(1 : Int), (0 : Int), (9 : Int)⟩ : Note)]), cOwn (α := Raw 2) 60 ah ai, cRo aj] R := H.back ae rfl
 clear ae
 refine sM (.tuple #[B r0, I r1]) rfl <| sX [B r0, I r1] (B r0) rfl rfl <| sX [B r0, I r1] (I r1) rfl rfl <| sA (B r0) rfl <| sA (I r1) rfl <| s_nil <| sQ rfl ?_
 obtain ⟨d5, cF, hM⟩ := M.e_bind hM
 refine s_call cf79 [] rfl (zai cF _ (St.give (T := [cOwn (α := Int) 3 aP ([(0 : Int), (2 : Int), (4 : Int), (5 : Int)]), cOwn (α := Int) 3 aO ([(0 : Int)]), cOwn (α := Raw 2) 60 aL aM, cRo aN, cRo aK, cRo aJ, cRo aI, cRo aH, cRo aG, cOwn (α := Int) 3 aF ([(0 : Int)]), cOwn (α := Raw 2) 60 aC aD, cRo aE, cRo aB, cOwn (α := Int) 3 aA ([(1 : Int)]), cOwn (α := Raw 2) 60 ax ay, cRo az, cRo aw, cOwn (α := Int) 3 aq ([(0 : Int)]), cOwn (α := Raw 2) 60 am ao, cRo ap, cRo al, cOwn (α := Note) 30 ak ([(⟨(0 : Int), (2 : Int), (7 : Int)⟩ : Note), (⟨(1 : Int), (0 : Int), (9 : Int)⟩ : Note)]), cOwn (α := Raw 2) 60 ah ai, cRo aj]) H rfl)) ?_
 rintro vq cG ⟨r7, aR, aS, aT, cH, hvq, ae, cI⟩
 subst cH
 subst vq
 try dsimp only at hM
 replace H : St w cG [cOwn (α := Raw 2) 60 aR aS, cRo aT, cOwn (α := Int) 3 aP ([(0 : Int), (2 : Int), (4 : Int), (5 : Int)]), cOwn (α := Int) 3 aO ([(0 : Int)]), cOwn (α := Raw 2) 60 aL aM, cRo aN, cRo aK, cRo aJ, cRo aI, cRo aH, cRo aG, cOwn (α := Int) 3 aF ([(0 : Int)]), cOwn (α := Raw 2) 60 aC aD, cRo aE, cRo aB, cOwn (α := Int) 3 aA ([(1 : Int)]), cOwn (α := Raw 2) 60 ax ay, cRo az, cRo aw, cOwn (α := Int) 3 aq ([(0 : Int)]), cOwn (α := Raw 2) 60 am ao, cRo ap, cRo al, cOwn (α := Note) 30 ak ([(⟨(0 : Int), (2 : Int), (7 : Int)⟩ : Note), (⟨(1 : Int), (0 : Int), (9 : Int)⟩ : Note)]), cOwn (α := Raw 2) 60 ah ai, cRo aj] R := H.back ae rfl
 clear ae
 refine t_bs (α := Int) T34 [I 0] [(0 : Int)] H rfl (.cons rfl (Flat.rep_enc _ (0 : Int)) <| .nil) rfl rfl rfl ?_
 intro aU d6 H
 refine t_bs (α := Int) T34 [I 0, I 2, I 4] [(0 : Int), (2 : Int), (4 : Int)] H rfl (.cons rfl (Flat.rep_enc _ (0 : Int)) <| .cons rfl (Flat.rep_enc _ (2 : Int)) <| .cons rfl (Flat.rep_enc _ (4 : Int)) <| .nil) rfl rfl rfl ?_
 intro aV d7 H
 obtain ⟨d8, cJ, hM⟩ := M.e_bind hM
 refine s_call cf34 [aR, aU, aV] rfl (zbW r7 ([(0 : Int)]) ([(0 : Int), (2 : Int), (4 : Int)]) (Reads.sup (Reads.of (k := 2) rfl ownLe) (Reads.of (k := 3) rfl roLe)) (rowSl rfl (H.get (k := 2) rfl) (roLe _ (H.get (k := 3) rfl)) cI) (Reads.of (k := 1) rfl ownLe) (ownSl (H.get (k := 1) rfl)) (Reads.of (k := 0) rfl ownLe) (ownSl (H.get (k := 0) rfl)) cJ _ (St.give (T := [cOwn (α := Int) 3 aV ([(0 : Int), (2 : Int), (4 : Int)]), cOwn (α := Int) 3 aU ([(0 : Int)]), cOwn (α := Raw 2) 60 aR aS, cRo aT, cOwn (α := Int) 3 aP ([(0 : Int), (2 : Int), (4 : Int), (5 : Int)]), cOwn (α := Int) 3 aO ([(0 : Int)]), cOwn (α := Raw 2) 60 aL aM, cRo aN, cRo aK, cRo aJ, cRo aI, cRo aH, cRo aG, cOwn (α := Int) 3 aF ([(0 : Int)]), cOwn (α := Raw 2) 60 aC aD, cRo aE, cRo aB, cOwn (α := Int) 3 aA ([(1 : Int)]), cOwn (α := Raw 2) 60 ax ay, cRo az, cRo aw, cOwn (α := Int) 3 aq ([(0 : Int)]), cOwn (α := Raw 2) 60 am ao, cRo ap, cRo al, cOwn (α := Note) 30 ak ([(⟨(0 : Int), (2 : Int), (7 : Int)⟩ : Note), (⟨(1 : Int), (0 : Int), (9 : Int)⟩ : Note)]), cOwn (α := Raw 2) 60 ah ai, cRo aj]) H rfl)) ?_
 rintro vq cK ⟨au, aa, cL, hvq, ae⟩
 subst cL
 subst vq
 try dsimp only at hM
 replace H : St w cK [cOwn (α := Int) 3 aV ([(0 : Int), (2 : Int), (4 : Int)]), cOwn (α := Int) 3 aU ([(0 : Int)]), cOwn (α := Raw 2) 60 aR aS, cRo aT, cOwn (α := Int) 3 aP ([(0 : Int), (2 : Int), (4 : Int), (5 : Int)]), cOwn (α := Int) 3 aO ([(0 : Int)]), cOwn (α := Raw 2) 60 aL aM, cRo aN, cRo aK, cRo aJ, cRo aI, cRo aH, cRo aG, cOwn (α := Int) 3 aF ([(0 : Int)]), cOwn (α := Raw 2) 60 aC aD, cRo aE, cRo aB, cOwn (α := Int) 3 aA ([(1 : Int)]), cOwn (α := Raw 2) 60 ax ay, cRo az, cRo aw, cOwn (α := Int) 3 aq ([(0 : Int)]), cOwn (α := Raw 2) 60 am ao, cRo ap, cRo al, cOwn (α := Note) 30 ak ([(⟨(0 : Int), (2 : Int), (7 : Int)⟩ : Note), (⟨(1 : Int), (0 : Int), (9 : Int)⟩ : Note)]), cOwn (α := Raw 2) 60 ah ai, cRo aj] R := H.back ae rfl
 clear ae
 refine sM (.tuple #[B au, I aa]) rfl <| sX [B au, I aa] (B au) rfl rfl <| sX [B au, I aa] (I aa) rfl rfl <| sA (B au) rfl <| sA (I aa) rfl <| s_nil <| sQ rfl ?_
 obtain ⟨d9, cM, hM⟩ := M.e_bind hM
 refine s_call cf79 [] rfl (zai cM _ (St.give (T := [cOwn (α := Int) 3 aV ([(0 : Int), (2 : Int), (4 : Int)]), cOwn (α := Int) 3 aU ([(0 : Int)]), cOwn (α := Raw 2) 60 aR aS, cRo aT, cOwn (α := Int) 3 aP ([(0 : Int), (2 : Int), (4 : Int), (5 : Int)]), cOwn (α := Int) 3 aO ([(0 : Int)]), cOwn (α := Raw 2) 60 aL aM, cRo aN, cRo aK, cRo aJ, cRo aI, cRo aH, cRo aG, cOwn (α := Int) 3 aF ([(0 : Int)]), cOwn (α := Raw 2) 60 aC aD, cRo aE, cRo aB, cOwn (α := Int) 3 aA ([(1 : Int)]), cOwn (α := Raw 2) 60 ax ay, cRo az, cRo aw, cOwn (α := Int) 3 aq ([(0 : Int)]), cOwn (α := Raw 2) 60 am ao, cRo ap, cRo al, cOwn (α := Note) 30 ak ([(⟨(0 : Int), (2 : Int), (7 : Int)⟩ : Note), (⟨(1 : Int), (0 : Int), (9 : Int)⟩ : Note)]), cOwn (α := Raw 2) 60 ah ai, cRo aj]) H rfl)) ?_
 rintro vq cN ⟨r8, aX, aZ, a5, cO, hvq, ae, cP⟩
 subst cO
 subst vq
 try dsimp only at hM
 replace H : St w cN [cOwn (α := Raw 2) 60 aX aZ, cRo a5, cOwn (α := Int) 3 aV ([(0 : Int), (2 : Int), (4 : Int)]), cOwn (α := Int) 3 aU ([(0 : Int)]), cOwn (α := Raw 2) 60 aR aS, cRo aT, cOwn (α := Int) 3 aP ([(0 : Int), (2 : Int), (4 : Int), (5 : Int)]), cOwn (α := Int) 3 aO ([(0 : Int)]), cOwn (α := Raw 2) 60 aL aM, cRo aN, cRo aK, cRo aJ, cRo aI, cRo aH, cRo aG, cOwn (α := Int) 3 aF ([(0 : Int)]), cOwn (α := Raw 2) 60 aC aD, cRo aE, cRo aB, cOwn (α := Int) 3 aA ([(1 : Int)]), cOwn (α := Raw 2) 60 ax ay, cRo az, cRo aw, cOwn (α := Int) 3 aq ([(0 : Int)]), cOwn (α := Raw 2) 60 am ao, cRo ap, cRo al, cOwn (α := Note) 30 ak ([(⟨(0 : Int), (2 : Int), (7 : Int)⟩ : Note), (⟨(1 : Int), (0 : Int), (9 : Int)⟩ : Note)]), cOwn (α := Raw 2) 60 ah ai, cRo aj] R := H.back ae rfl
 clear ae
 refine t_bs (α := Int) T34 [I 1] [(1 : Int)] H rfl (.cons rfl (Flat.rep_enc _ (1 : Int)) <| .nil) rfl rfl rfl ?_
 intro a6 ec H
 obtain ⟨ed, cQ, hM⟩ := M.e_bind hM
 refine s_call cf64 [aX, a6, I 4] rfl (zbH r8 ([(1 : Int)]) 4 (Reads.sup (Reads.of (k := 1) rfl ownLe) (Reads.of (k := 2) rfl roLe)) (rowSl rfl (H.get (k := 1) rfl) (roLe _ (H.get (k := 2) rfl)) cP) (Reads.of (k := 0) rfl ownLe) (ownSl (H.get (k := 0) rfl)) cQ _ (St.give (T := [cOwn (α := Int) 3 a6 ([(1 : Int)]), cOwn (α := Raw 2) 60 aX aZ, cRo a5, cOwn (α := Int) 3 aV ([(0 : Int), (2 : Int), (4 : Int)]), cOwn (α := Int) 3 aU ([(0 : Int)]), cOwn (α := Raw 2) 60 aR aS, cRo aT, cOwn (α := Int) 3 aP ([(0 : Int), (2 : Int), (4 : Int), (5 : Int)]), cOwn (α := Int) 3 aO ([(0 : Int)]), cOwn (α := Raw 2) 60 aL aM, cRo aN, cRo aK, cRo aJ, cRo aI, cRo aH, cRo aG, cOwn (α := Int) 3 aF ([(0 : Int)]), cOwn (α := Raw 2) 60 aC aD, cRo aE, cRo aB, cOwn (α := Int) 3 aA ([(1 : Int)]), cOwn (α := Raw 2) 60 ax ay, cRo az, cRo aw, cOwn (α := Int) 3 aq ([(0 : Int)]), cOwn (α := Raw 2) 60 am ao, cRo ap, cRo al, cOwn (α := Note) 30 ak ([(⟨(0 : Int), (2 : Int), (7 : Int)⟩ : Note), (⟨(1 : Int), (0 : Int), (9 : Int)⟩ : Note)]), cOwn (α := Raw 2) 60 ah ai, cRo aj]) H rfl)) ?_
 rintro vq cR ⟨a8, ab, aQ, cS, hvq, ae⟩
 subst cS
 subst vq
 try dsimp only at hM
 replace H : St w cR [cOwn (α := Int) 3 aQ a8, cOwn (α := Int) 3 a6 ([(1 : Int)]), cOwn (α := Raw 2) 60 aX aZ, cRo a5, cOwn (α := Int) 3 aV ([(0 : Int), (2 : Int), (4 : Int)]), cOwn (α := Int) 3 aU ([(0 : Int)]), cOwn (α := Raw 2) 60 aR aS, cRo aT, cOwn (α := Int) 3 aP ([(0 : Int), (2 : Int), (4 : Int), (5 : Int)]), cOwn (α := Int) 3 aO ([(0 : Int)]), cOwn (α := Raw 2) 60 aL aM, cRo aN, cRo aK, cRo aJ, cRo aI, cRo aH, cRo aG, cOwn (α := Int) 3 aF ([(0 : Int)]), cOwn (α := Raw 2) 60 aC aD, cRo aE, cRo aB, cOwn (α := Int) 3 aA ([(1 : Int)]), cOwn (α := Raw 2) 60 ax ay, cRo az, cRo aw, cOwn (α := Int) 3 aq ([(0 : Int)]), cOwn (α := Raw 2) 60 am ao, cRo ap, cRo al, cOwn (α := Note) 30 ak ([(⟨(0 : Int), (2 : Int), (7 : Int)⟩ : Note), (⟨(1 : Int), (0 : Int), (9 : Int)⟩ : Note)]), cOwn (α := Raw 2) 60 ah ai, cRo aj] R := H.back ae rfl
 clear ae
 refine sM (.tuple #[aQ, I ab]) rfl <| sX [aQ, I ab] aQ rfl rfl <| sX [aQ, I ab] (I ab) rfl rfl <| sA aQ rfl <| sA (I ab) rfl <| s_nil <| sQ rfl ?_
 obtain ⟨ee, cT, hM⟩ := M.e_bind hM
 refine s_call cf79 [] rfl (zai cT _ (St.give (T := [cOwn (α := Int) 3 aQ a8, cOwn (α := Int) 3 a6 ([(1 : Int)]), cOwn (α := Raw 2) 60 aX aZ, cRo a5, cOwn (α := Int) 3 aV ([(0 : Int), (2 : Int), (4 : Int)]), cOwn (α := Int) 3 aU ([(0 : Int)]), cOwn (α := Raw 2) 60 aR aS, cRo aT, cOwn (α := Int) 3 aP ([(0 : Int), (2 : Int), (4 : Int), (5 : Int)]), cOwn (α := Int) 3 aO ([(0 : Int)]), cOwn (α := Raw 2) 60 aL aM, cRo aN, cRo aK, cRo aJ, cRo aI, cRo aH, cRo aG, cOwn (α := Int) 3 aF ([(0 : Int)]), cOwn (α := Raw 2) 60 aC aD, cRo aE, cRo aB, cOwn (α := Int) 3 aA ([(1 : Int)]), cOwn (α := Raw 2) 60 ax ay, cRo az, cRo aw, cOwn (α := Int) 3 aq ([(0 : Int)]), cOwn (α := Raw 2) 60 am ao, cRo ap, cRo al, cOwn (α := Note) 30 ak ([(⟨(0 : Int), (2 : Int), (7 : Int)⟩ : Note), (⟨(1 : Int), (0 : Int), (9 : Int)⟩ : Note)]), cOwn (α := Raw 2) 60 ah ai, cRo aj]) H rfl)) ?_
 rintro vq cU ⟨r9, a9, ba, bb, cV, hvq, ae, cW⟩
 subst cV
 subst vq
 try dsimp only at hM
 replace H : St w cU [cOwn (α := Raw 2) 60 a9 ba, cRo bb, cOwn (α := Int) 3 aQ a8, cOwn (α := Int) 3 a6 ([(1 : Int)]), cOwn (α := Raw 2) 60 aX aZ, cRo a5, cOwn (α := Int) 3 aV ([(0 : Int), (2 : Int), (4 : Int)]), cOwn (α := Int) 3 aU ([(0 : Int)]), cOwn (α := Raw 2) 60 aR aS, cRo aT, cOwn (α := Int) 3 aP ([(0 : Int), (2 : Int), (4 : Int), (5 : Int)]), cOwn (α := Int) 3 aO ([(0 : Int)]), cOwn (α := Raw 2) 60 aL aM, cRo aN, cRo aK, cRo aJ, cRo aI, cRo aH, cRo aG, cOwn (α := Int) 3 aF ([(0 : Int)]), cOwn (α := Raw 2) 60 aC aD, cRo aE, cRo aB, cOwn (α := Int) 3 aA ([(1 : Int)]), cOwn (α := Raw 2) 60 ax ay, cRo az, cRo aw, cOwn (α := Int) 3 aq ([(0 : Int)]), cOwn (α := Raw 2) 60 am ao, cRo ap, cRo al, cOwn (α := Note) 30 ak ([(⟨(0 : Int), (2 : Int), (7 : Int)⟩ : Note), (⟨(1 : Int), (0 : Int), (9 : Int)⟩ : Note)]), cOwn (α := Raw 2) 60 ah ai, cRo aj] R := H.back ae rfl
 clear ae
 refine t_bs (α := Int) T34 [I 1] [(1 : Int)] H rfl (.cons rfl (Flat.rep_enc _ (1 : Int)) <| .nil) rfl rfl rfl ?_
 intro bc ef H
 obtain ⟨eg, cX, hM⟩ := M.e_bind hM
 refine s_call cf65 [a9, bc, I 4] rfl (zbR r9 ([(1 : Int)]) 4 (Reads.sup (Reads.of (k := 1) rfl ownLe) (Reads.of (k := 2) rfl roLe)) (rowSl rfl (H.get (k := 1) rfl) (roLe _ (H.get (k := 2) rfl)) cW) (Reads.of (k := 0) rfl ownLe) (ownSl (H.get (k := 0) rfl)) cX _ (St.give (T := [cOwn (α := Int) 3 bc ([(1 : Int)]), cOwn (α := Raw 2) 60 a9 ba, cRo bb, cOwn (α := Int) 3 aQ a8, cOwn (α := Int) 3 a6 ([(1 : Int)]), cOwn (α := Raw 2) 60 aX aZ, cRo a5, cOwn (α := Int) 3 aV ([(0 : Int), (2 : Int), (4 : Int)]), cOwn (α := Int) 3 aU ([(0 : Int)]), cOwn (α := Raw 2) 60 aR aS, cRo aT, cOwn (α := Int) 3 aP ([(0 : Int), (2 : Int), (4 : Int), (5 : Int)]), cOwn (α := Int) 3 aO ([(0 : Int)]), cOwn (α := Raw 2) 60 aL aM, cRo aN, cRo aK, cRo aJ, cRo aI, cRo aH, cRo aG, cOwn (α := Int) 3 aF ([(0 : Int)]), cOwn (α := Raw 2) 60 aC aD, cRo aE, cRo aB, cOwn (α := Int) 3 aA ([(1 : Int)]), cOwn (α := Raw 2) 60 ax ay, cRo az, cRo aw, cOwn (α := Int) 3 aq ([(0 : Int)]), cOwn (α := Raw 2) 60 am ao, cRo ap, cRo al, cOwn (α := Note) 30 ak ([(⟨(0 : Int), (2 : Int), (7 : Int)⟩ : Note), (⟨(1 : Int), (0 : Int), (9 : Int)⟩ : Note)]), cOwn (α := Raw 2) 60 ah ai, cRo aj]) H rfl)) ?_
 rintro vq cY ⟨bn, ac, aY, bl, bm, cZ, hvq, ae, da⟩
 subst cZ
 subst vq
 try dsimp only at hM
 replace H : St w cY [cOwn (α := Raw 0) 34 aY bl, cRo bm, cOwn (α := Int) 3 bc ([(1 : Int)]), cOwn (α := Raw 2) 60 a9 ba, cRo bb, cOwn (α := Int) 3 aQ a8, cOwn (α := Int) 3 a6 ([(1 : Int)]), cOwn (α := Raw 2) 60 aX aZ, cRo a5, cOwn (α := Int) 3 aV ([(0 : Int), (2 : Int), (4 : Int)]), cOwn (α := Int) 3 aU ([(0 : Int)]), cOwn (α := Raw 2) 60 aR aS, cRo aT, cOwn (α := Int) 3 aP ([(0 : Int), (2 : Int), (4 : Int), (5 : Int)]), cOwn (α := Int) 3 aO ([(0 : Int)]), cOwn (α := Raw 2) 60 aL aM, cRo aN, cRo aK, cRo aJ, cRo aI, cRo aH, cRo aG, cOwn (α := Int) 3 aF ([(0 : Int)]), cOwn (α := Raw 2) 60 aC aD, cRo aE, cRo aB, cOwn (α := Int) 3 aA ([(1 : Int)]), cOwn (α := Raw 2) 60 ax ay, cRo az, cRo aw, cOwn (α := Int) 3 aq ([(0 : Int)]), cOwn (α := Raw 2) 60 am ao, cRo ap, cRo al, cOwn (α := Note) 30 ak ([(⟨(0 : Int), (2 : Int), (7 : Int)⟩ : Note), (⟨(1 : Int), (0 : Int), (9 : Int)⟩ : Note)]), cOwn (α := Raw 2) 60 ah ai, cRo aj] R := H.back ae rfl
 clear ae
 refine sM (.tuple #[aY, I ac]) rfl <| sX [aY, I ac] aY rfl rfl <| sX [aY, I ac] (I ac) rfl rfl <| sA aY rfl <| sA (I ac) rfl <| s_nil <| sQ rfl ?_
 obtain ⟨eh, db, hM⟩ := M.e_bind hM
 refine s_call cf79 [] rfl (zai db _ (St.give (T := [cOwn (α := Raw 0) 34 aY bl, cRo bm, cOwn (α := Int) 3 bc ([(1 : Int)]), cOwn (α := Raw 2) 60 a9 ba, cRo bb, cOwn (α := Int) 3 aQ a8, cOwn (α := Int) 3 a6 ([(1 : Int)]), cOwn (α := Raw 2) 60 aX aZ, cRo a5, cOwn (α := Int) 3 aV ([(0 : Int), (2 : Int), (4 : Int)]), cOwn (α := Int) 3 aU ([(0 : Int)]), cOwn (α := Raw 2) 60 aR aS, cRo aT, cOwn (α := Int) 3 aP ([(0 : Int), (2 : Int), (4 : Int), (5 : Int)]), cOwn (α := Int) 3 aO ([(0 : Int)]), cOwn (α := Raw 2) 60 aL aM, cRo aN, cRo aK, cRo aJ, cRo aI, cRo aH, cRo aG, cOwn (α := Int) 3 aF ([(0 : Int)]), cOwn (α := Raw 2) 60 aC aD, cRo aE, cRo aB, cOwn (α := Int) 3 aA ([(1 : Int)]), cOwn (α := Raw 2) 60 ax ay, cRo az, cRo aw, cOwn (α := Int) 3 aq ([(0 : Int)]), cOwn (α := Raw 2) 60 am ao, cRo ap, cRo al, cOwn (α := Note) 30 ak ([(⟨(0 : Int), (2 : Int), (7 : Int)⟩ : Note), (⟨(1 : Int), (0 : Int), (9 : Int)⟩ : Note)]), cOwn (α := Raw 2) 60 ah ai, cRo aj]) H rfl)) ?_
 rintro vq dc ⟨dd, bo, bq, br, de, hvq, ae, dg⟩
 subst de
 subst vq
 try dsimp only at hM
 replace H : St w dc [cOwn (α := Raw 2) 60 bo bq, cRo br, cOwn (α := Raw 0) 34 aY bl, cRo bm, cOwn (α := Int) 3 bc ([(1 : Int)]), cOwn (α := Raw 2) 60 a9 ba, cRo bb, cOwn (α := Int) 3 aQ a8, cOwn (α := Int) 3 a6 ([(1 : Int)]), cOwn (α := Raw 2) 60 aX aZ, cRo a5, cOwn (α := Int) 3 aV ([(0 : Int), (2 : Int), (4 : Int)]), cOwn (α := Int) 3 aU ([(0 : Int)]), cOwn (α := Raw 2) 60 aR aS, cRo aT, cOwn (α := Int) 3 aP ([(0 : Int), (2 : Int), (4 : Int), (5 : Int)]), cOwn (α := Int) 3 aO ([(0 : Int)]), cOwn (α := Raw 2) 60 aL aM, cRo aN, cRo aK, cRo aJ, cRo aI, cRo aH, cRo aG, cOwn (α := Int) 3 aF ([(0 : Int)]), cOwn (α := Raw 2) 60 aC aD, cRo aE, cRo aB, cOwn (α := Int) 3 aA ([(1 : Int)]), cOwn (α := Raw 2) 60 ax ay, cRo az, cRo aw, cOwn (α := Int) 3 aq ([(0 : Int)]), cOwn (α := Raw 2) 60 am ao, cRo ap, cRo al, cOwn (α := Note) 30 ak ([(⟨(0 : Int), (2 : Int), (7 : Int)⟩ : Note), (⟨(1 : Int), (0 : Int), (9 : Int)⟩ : Note)]), cOwn (α := Raw 2) 60 ah ai, cRo aj] R := H.back ae rfl
 clear ae
 refine t_bs (α := Int) T34 [I 1] [(1 : Int)] H rfl (.cons rfl (Flat.rep_enc _ (1 : Int)) <| .nil) rfl rfl rfl ?_
 intro bt ei H
 obtain ⟨ej, dh, hM⟩ := M.e_bind hM
 refine s_call cf64 [bo, bt, I 3] rfl (zbH dd ([(1 : Int)]) 3 (Reads.sup (Reads.of (k := 1) rfl ownLe) (Reads.of (k := 2) rfl roLe)) (rowSl rfl (H.get (k := 1) rfl) (roLe _ (H.get (k := 2) rfl)) dg) (Reads.of (k := 0) rfl ownLe) (ownSl (H.get (k := 0) rfl)) dh _ (St.give (T := [cOwn (α := Int) 3 bt ([(1 : Int)]), cOwn (α := Raw 2) 60 bo bq, cRo br, cOwn (α := Raw 0) 34 aY bl, cRo bm, cOwn (α := Int) 3 bc ([(1 : Int)]), cOwn (α := Raw 2) 60 a9 ba, cRo bb, cOwn (α := Int) 3 aQ a8, cOwn (α := Int) 3 a6 ([(1 : Int)]), cOwn (α := Raw 2) 60 aX aZ, cRo a5, cOwn (α := Int) 3 aV ([(0 : Int), (2 : Int), (4 : Int)]), cOwn (α := Int) 3 aU ([(0 : Int)]), cOwn (α := Raw 2) 60 aR aS, cRo aT, cOwn (α := Int) 3 aP ([(0 : Int), (2 : Int), (4 : Int), (5 : Int)]), cOwn (α := Int) 3 aO ([(0 : Int)]), cOwn (α := Raw 2) 60 aL aM, cRo aN, cRo aK, cRo aJ, cRo aI, cRo aH, cRo aG, cOwn (α := Int) 3 aF ([(0 : Int)]), cOwn (α := Raw 2) 60 aC aD, cRo aE, cRo aB, cOwn (α := Int) 3 aA ([(1 : Int)]), cOwn (α := Raw 2) 60 ax ay, cRo az, cRo aw, cOwn (α := Int) 3 aq ([(0 : Int)]), cOwn (α := Raw 2) 60 am ao, cRo ap, cRo al, cOwn (α := Note) 30 ak ([(⟨(0 : Int), (2 : Int), (7 : Int)⟩ : Note), (⟨(1 : Int), (0 : Int), (9 : Int)⟩ : Note)]), cOwn (α := Raw 2) 60 ah ai, cRo aj]) H rfl)) ?_
 rintro vq di ⟨bF, ag, bj, dj, hvq, ae⟩
 subst dj
 subst vq
 try dsimp only at hM
 replace H : St w di [cOwn (α := Int) 3 bj bF, cOwn (α := Int) 3 bt ([(1 : Int)]), cOwn (α := Raw 2) 60 bo bq, cRo br, cOwn (α := Raw 0) 34 aY bl, cRo bm, cOwn (α := Int) 3 bc ([(1 : Int)]), cOwn (α := Raw 2) 60 a9 ba, cRo bb, cOwn (α := Int) 3 aQ a8, cOwn (α := Int) 3 a6 ([(1 : Int)]), cOwn (α := Raw 2) 60 aX aZ, cRo a5, cOwn (α := Int) 3 aV ([(0 : Int), (2 : Int), (4 : Int)]), cOwn (α := Int) 3 aU ([(0 : Int)]), cOwn (α := Raw 2) 60 aR aS, cRo aT, cOwn (α := Int) 3 aP ([(0 : Int), (2 : Int), (4 : Int), (5 : Int)]), cOwn (α := Int) 3 aO ([(0 : Int)]), cOwn (α := Raw 2) 60 aL aM, cRo aN, cRo aK, cRo aJ, cRo aI, cRo aH, cRo aG, cOwn (α := Int) 3 aF ([(0 : Int)]), cOwn (α := Raw 2) 60 aC aD, cRo aE, cRo aB, cOwn (α := Int) 3 aA ([(1 : Int)]), cOwn (α := Raw 2) 60 ax ay, cRo az, cRo aw, cOwn (α := Int) 3 aq ([(0 : Int)]), cOwn (α := Raw 2) 60 am ao, cRo ap, cRo al, cOwn (α := Note) 30 ak ([(⟨(0 : Int), (2 : Int), (7 : Int)⟩ : Note), (⟨(1 : Int), (0 : Int), (9 : Int)⟩ : Note)]), cOwn (α := Raw 2) 60 ah ai, cRo aj] R := H.back ae rfl
 clear ae
 refine sM (.tuple #[bj, I ag]) rfl <| sX [bj, I ag] bj rfl rfl <| sX [bj, I ag] (I ag) rfl rfl <| sA bj rfl <| sA (I ag) rfl <| s_nil <| W.seq <| sQ rfl <| sM (I r1) rfl <| sC r1 0 (r1 != 0) rfl rfl rfl <| sM (B (r1 != 0)) rfl ?_
 refine g_val (!(r1 != 0)) (gy_f rfl) (fun hg => x_mv (v := I aa) rfl) <| g_val (!(r1 != 0)) (gy_f rfl) (fun hg => x_cmp (kd := .i64) (a := aa) (b := 0) (r := aa != 0) (gd_of (c := !(r1 != 0)) hg (I aa)) rfl rfl) <| s_val (x_por (b := r1 != 0) (r := aa != 0) rfl rfl (fun hb => gd_of (c := !(r1 != 0)) (by first | exact hb | (rw [hb]; rfl) | simp_all) (B (aa != 0)))) <| sM (B ((r1 != 0) || (aa != 0))) rfl <| g_val (!((r1 != 0) || (aa != 0))) (gy_f rfl) (fun hg => x_mv (v := I ab) rfl) <| g_val (!((r1 != 0) || (aa != 0))) (gy_f rfl) (fun hg => x_cmp (kd := .i64) (a := ab) (b := 0) (r := ab != 0) (gd_of (c := !((r1 != 0) || (aa != 0))) hg (I ab)) rfl rfl) <| s_val (x_por (b := ((r1 != 0) || (aa != 0))) (r := ab != 0) rfl rfl (fun hb => gd_of (c := !((r1 != 0) || (aa != 0))) (by first | exact hb | (rw [hb]; rfl) | simp_all) (B (ab != 0)))) <| sM (B (((r1 != 0) || (aa != 0)) || (ab != 0))) rfl <| g_val (!(((r1 != 0) || (aa != 0)) || (ab != 0))) (gy_f rfl) (fun hg => x_mv (v := I ac) rfl) <| g_val (!(((r1 != 0) || (aa != 0)) || (ab != 0))) (gy_f rfl) (fun hg => x_cmp (kd := .i64) (a := ac) (b := 0) (r := ac != 0) (gd_of (c := !(((r1 != 0) || (aa != 0)) || (ab != 0))) hg (I ac)) rfl rfl) <| s_val (x_por (b := (((r1 != 0) || (aa != 0)) || (ab != 0))) (r := ac != 0) rfl rfl (fun hb => gd_of (c := !(((r1 != 0) || (aa != 0)) || (ab != 0))) (by first | exact hb | (rw [hb]; rfl) | simp_all) (B (ac != 0)))) <| sM (B ((((r1 != 0) || (aa != 0)) || (ab != 0)) || (ac != 0))) rfl ?_
 refine g_val (!((((r1 != 0) || (aa != 0)) || (ab != 0)) || (ac != 0))) (gy_f rfl) (fun hg => x_mv (v := I ag) rfl) <| g_val (!((((r1 != 0) || (aa != 0)) || (ab != 0)) || (ac != 0))) (gy_f rfl) (fun hg => x_cmp (kd := .i64) (a := ag) (b := 5) (r := ag != 5) (gd_of (c := !((((r1 != 0) || (aa != 0)) || (ab != 0)) || (ac != 0))) hg (I ag)) rfl rfl) <| s_val (x_por (b := ((((r1 != 0) || (aa != 0)) || (ab != 0)) || (ac != 0))) (r := ag != 5) rfl rfl (fun hb => gd_of (c := !((((r1 != 0) || (aa != 0)) || (ab != 0)) || (ac != 0))) (by first | exact hb | (rw [hb]; rfl) | simp_all) (B (ag != 5)))) <| sM (B (((((r1 != 0) || (aa != 0)) || (ab != 0)) || (ac != 0)) || (ag != 5))) rfl <| g_val (!(((((r1 != 0) || (aa != 0)) || (ab != 0)) || (ac != 0)) || (ag != 5))) (gy_f rfl) (fun hg => x_mv (v := B r0) rfl) <| g_val (!(((((r1 != 0) || (aa != 0)) || (ab != 0)) || (ac != 0)) || (ag != 5))) (gy_f rfl) (fun hg => x_not (b := r0) (gd_of (c := !(((((r1 != 0) || (aa != 0)) || (ab != 0)) || (ac != 0)) || (ag != 5))) hg (B r0))) <| s_val (x_por (b := (((((r1 != 0) || (aa != 0)) || (ab != 0)) || (ac != 0)) || (ag != 5))) (r := !r0) rfl rfl (fun hb => gd_of (c := !(((((r1 != 0) || (aa != 0)) || (ab != 0)) || (ac != 0)) || (ag != 5))) (by first | exact hb | (rw [hb]; rfl) | simp_all) (B (!r0)))) <| sM (B ((((((r1 != 0) || (aa != 0)) || (ab != 0)) || (ac != 0)) || (ag != 5)) || (!r0))) rfl <| g_val (!((((((r1 != 0) || (aa != 0)) || (ab != 0)) || (ac != 0)) || (ag != 5)) || (!r0))) (gy_f rfl) (fun hg => x_mv (v := B au) rfl) <| s_val (x_por (b := ((((((r1 != 0) || (aa != 0)) || (ab != 0)) || (ac != 0)) || (ag != 5)) || (!r0))) (r := au) rfl rfl (fun hb => gd_of (c := !((((((r1 != 0) || (aa != 0)) || (ab != 0)) || (ac != 0)) || (ag != 5)) || (!r0))) (by first | exact hb | (rw [hb]; rfl) | simp_all) (B au))) <| sM (B (((((((r1 != 0) || (aa != 0)) || (ab != 0)) || (ac != 0)) || (ag != 5)) || (!r0)) || au)) rfl <| g_val (!(((((((r1 != 0) || (aa != 0)) || (ab != 0)) || (ac != 0)) || (ag != 5)) || (!r0)) || au)) (gy_f rfl) (fun hg => x_mv (v := aQ) rfl) ?_
 refine t_gbs (α := Int) T34 (!(((((((r1 != 0) || (aa != 0)) || (ab != 0)) || (ac != 0)) || (ag != 5)) || (!r0)) || au)) (gy_f rfl) [I 2, I 3] [(2 : Int), (3 : Int)] H (fun _ => rfl) (.cons rfl (Flat.rep_enc _ _) <| .cons rfl (Flat.rep_enc _ _) <| .nil) rfl rfl rfl ?_
 intro bN bO ek H dk
 obtain ⟨s5, bG, hM⟩ := M.e_bind hM
 replace bG := M.e_pure bG
 refine t_gcall (!(((((((r1 != 0) || (aa != 0)) || (ab != 0)) || (ac != 0)) || (ag != 5)) || (!r0)) || au)) (gy_f rfl) cf25 (B s5) (fun _ => [aQ, bN]) (fun hg => lst2 (gd_of (c := !(((((((r1 != 0) || (aa != 0)) || (ab != 0)) || (ac != 0)) || (ag != 5)) || (!r0)) || au)) hg (aQ)) (gd_of (c := !(((((((r1 != 0) || (aa != 0)) || (ab != 0)) || (ac != 0)) || (ag != 5)) || (!r0)) || au)) hg (bN))) H (fun hg => Ret.mono (same_int _ ((ownSl (H.get (k := 10) rfl)).mono (ownLe _ (H.get (k := 10) rfl))) ((dk hg).mono (roLe _ (H.get (k := 0) rfl)))) fun v_ w_ ⟨a7, av⟩ => ⟨a7.trans (congrArg B bG), H.ext av⟩) ?_
 intro el H
 refine g_val (!(((((((r1 != 0) || (aa != 0)) || (ab != 0)) || (ac != 0)) || (ag != 5)) || (!r0)) || au)) (gy_f rfl) (fun hg => x_not (b := s5) (gd_of (c := !(((((((r1 != 0) || (aa != 0)) || (ab != 0)) || (ac != 0)) || (ag != 5)) || (!r0)) || au)) hg (B s5))) <| s_val (x_por (b := (((((((r1 != 0) || (aa != 0)) || (ab != 0)) || (ac != 0)) || (ag != 5)) || (!r0)) || au)) (r := !s5) rfl rfl (fun hb => gd_of (c := !(((((((r1 != 0) || (aa != 0)) || (ab != 0)) || (ac != 0)) || (ag != 5)) || (!r0)) || au)) (by first | exact hb | (rw [hb]; rfl) | simp_all) (B (!s5)))) <| sM (B ((((((((r1 != 0) || (aa != 0)) || (ab != 0)) || (ac != 0)) || (ag != 5)) || (!r0)) || au) || (!s5))) rfl <| g_val (!((((((((r1 != 0) || (aa != 0)) || (ab != 0)) || (ac != 0)) || (ag != 5)) || (!r0)) || au) || (!s5))) (gy_f rfl) (fun hg => x_mv (v := aY) rfl) <| g_val (!((((((((r1 != 0) || (aa != 0)) || (ab != 0)) || (ac != 0)) || (ag != 5)) || (!r0)) || au) || (!s5))) (gy_f rfl) (fun hg => x_lenS T73.und (gd_of (c := !((((((((r1 != 0) || (aa != 0)) || (ab != 0)) || (ac != 0)) || (ag != 5)) || (!r0)) || au) || (!s5))) hg (aY)) (rowSl rfl (H.get (k := 5) rfl) (roLe _ (H.get (k := 6) rfl)) da)) <| g_val (!((((((((r1 != 0) || (aa != 0)) || (ab != 0)) || (ac != 0)) || (ag != 5)) || (!r0)) || au) || (!s5))) (gy_f rfl) (fun hg => x_cmp (kd := .i64) (a := (bn.length : Int)) (b := 2) (r := (bn.length : Int) != 2) (gd_of (c := !((((((((r1 != 0) || (aa != 0)) || (ab != 0)) || (ac != 0)) || (ag != 5)) || (!r0)) || au) || (!s5))) hg (I (bn.length : Int))) rfl rfl) <| s_val (x_por (b := ((((((((r1 != 0) || (aa != 0)) || (ab != 0)) || (ac != 0)) || (ag != 5)) || (!r0)) || au) || (!s5))) (r := (bn.length : Int) != 2) rfl rfl (fun hb => gd_of (c := !((((((((r1 != 0) || (aa != 0)) || (ab != 0)) || (ac != 0)) || (ag != 5)) || (!r0)) || au) || (!s5))) (by first | exact hb | (rw [hb]; rfl) | simp_all) (B ((bn.length : Int) != 2)))) <| s_nil ?_
 refine W.cond (((((((((r1 != 0) || (aa != 0)) || (ab != 0)) || (ac != 0)) || (ag != 5)) || (!r0)) || au) || (!s5)) || ((bn.length : Int) != 2)) rfl (fun bH => ?_) (fun bH => ?_)
 ·replace hM := M.e_t hM bH
  refine sQ rfl <| sA (B false) rfl <| s_nil ?_
  refine W.ret ?_
  have bp := M.e_pure hM
  exact ⟨_, resE_tmp rfl, ⟨false, bp, rfl, (H.pick [] (by decide) rfl)⟩⟩
 replace hM := M.e_f hM bH
 refine W.skip <| sQ rfl ?_
 obtain ⟨em, dl, hM⟩ := M.e_bind hM
 refine s_call cf79 [] rfl (zai dl _ (St.give (T := [cRo bO, cOwn (α := Int) 3 bj bF, cOwn (α := Int) 3 bt ([(1 : Int)]), cOwn (α := Raw 2) 60 bo bq, cRo br, cOwn (α := Raw 0) 34 aY bl, cRo bm, cOwn (α := Int) 3 bc ([(1 : Int)]), cOwn (α := Raw 2) 60 a9 ba, cRo bb, cOwn (α := Int) 3 aQ a8, cOwn (α := Int) 3 a6 ([(1 : Int)]), cOwn (α := Raw 2) 60 aX aZ, cRo a5, cOwn (α := Int) 3 aV ([(0 : Int), (2 : Int), (4 : Int)]), cOwn (α := Int) 3 aU ([(0 : Int)]), cOwn (α := Raw 2) 60 aR aS, cRo aT, cOwn (α := Int) 3 aP ([(0 : Int), (2 : Int), (4 : Int), (5 : Int)]), cOwn (α := Int) 3 aO ([(0 : Int)]), cOwn (α := Raw 2) 60 aL aM, cRo aN, cRo aK, cRo aJ, cRo aI, cRo aH, cRo aG, cOwn (α := Int) 3 aF ([(0 : Int)]), cOwn (α := Raw 2) 60 aC aD, cRo aE, cRo aB, cOwn (α := Int) 3 aA ([(1 : Int)]), cOwn (α := Raw 2) 60 ax ay, cRo az, cRo aw, cOwn (α := Int) 3 aq ([(0 : Int)]), cOwn (α := Raw 2) 60 am ao, cRo ap, cRo al, cOwn (α := Note) 30 ak ([(⟨(0 : Int), (2 : Int), (7 : Int)⟩ : Note), (⟨(1 : Int), (0 : Int), (9 : Int)⟩ : Note)]), cOwn (α := Raw 2) 60 ah ai, cRo aj]) H rfl)) ?_
 rintro vq dm ⟨en, bP, dp, dq, dr, hvq, ae, dt⟩
 subst dr
 subst vq
 try dsimp only at hM
 replace H : St w dm [cOwn (α := Raw 2) 60 bP dp, cRo dq, cRo bO, cOwn (α := Int) 3 bj bF, cOwn (α := Int) 3 bt ([(1 : Int)]), cOwn (α := Raw 2) 60 bo bq, cRo br, cOwn (α := Raw 0) 34 aY bl, cRo bm, cOwn (α := Int) 3 bc ([(1 : Int)]), cOwn (α := Raw 2) 60 a9 ba, cRo bb, cOwn (α := Int) 3 aQ a8, cOwn (α := Int) 3 a6 ([(1 : Int)]), cOwn (α := Raw 2) 60 aX aZ, cRo a5, cOwn (α := Int) 3 aV ([(0 : Int), (2 : Int), (4 : Int)]), cOwn (α := Int) 3 aU ([(0 : Int)]), cOwn (α := Raw 2) 60 aR aS, cRo aT, cOwn (α := Int) 3 aP ([(0 : Int), (2 : Int), (4 : Int), (5 : Int)]), cOwn (α := Int) 3 aO ([(0 : Int)]), cOwn (α := Raw 2) 60 aL aM, cRo aN, cRo aK, cRo aJ, cRo aI, cRo aH, cRo aG, cOwn (α := Int) 3 aF ([(0 : Int)]), cOwn (α := Raw 2) 60 aC aD, cRo aE, cRo aB, cOwn (α := Int) 3 aA ([(1 : Int)]), cOwn (α := Raw 2) 60 ax ay, cRo az, cRo aw, cOwn (α := Int) 3 aq ([(0 : Int)]), cOwn (α := Raw 2) 60 am ao, cRo ap, cRo al, cOwn (α := Note) 30 ak ([(⟨(0 : Int), (2 : Int), (7 : Int)⟩ : Note), (⟨(1 : Int), (0 : Int), (9 : Int)⟩ : Note)]), cOwn (α := Raw 2) 60 ah ai, cRo aj] R := H.back ae rfl
 clear ae
 refine s_val (x_bld (ps := [(0, I 0), (1, I 3), (2, I 8)]) (zs := [I 0, I 0, I 0]) (L' := [I 0, I 3, I 8]) rfl Try.underlying30 Al30 rfl (Bd30 Try.underlying30) (.cons (cs := [I 0]) rfl rfl rfl rfl rfl <| .cons (cs := [I 3]) rfl rfl rfl rfl rfl <| .cons (cs := [I 8]) rfl rfl rfl rfl rfl <| .nil)) <| s_val (x_bld (ps := [(0, I 0), (1, I 2), (2, I 7)]) (zs := [I 0, I 0, I 0]) (L' := [I 0, I 2, I 7]) rfl Try.underlying30 Al30 rfl (Bd30 Try.underlying30) (.cons (cs := [I 0]) rfl rfl rfl rfl rfl <| .cons (cs := [I 2]) rfl rfl rfl rfl rfl <| .cons (cs := [I 7]) rfl rfl rfl rfl rfl <| .nil)) <| s_val (x_bld (ps := [(0, I 1), (2, I 9)]) (zs := [I 0, I 0, I 0]) (L' := [I 1, I 0, I 9]) rfl Try.underlying30 Al30 rfl (Bd30 Try.underlying30) (.cons (cs := [I 1]) rfl rfl rfl rfl rfl <| .cons (cs := [I 9]) rfl rfl rfl rfl rfl <| .nil)) ?_
 refine t_bs (α := Note) T23 [.agg #[I 0, I 3, I 8], .agg #[I 0, I 2, I 7], .agg #[I 1, I 0, I 9]] [(⟨(0 : Int), (3 : Int), (8 : Int)⟩ : Note), (⟨(0 : Int), (2 : Int), (7 : Int)⟩ : Note), (⟨(1 : Int), (0 : Int), (9 : Int)⟩ : Note)] H rfl (.cons rfl (Flat.rep_enc _ (⟨(0 : Int), (3 : Int), (8 : Int)⟩ : Note)) <| .cons rfl (Flat.rep_enc _ (⟨(0 : Int), (2 : Int), (7 : Int)⟩ : Note)) <| .cons rfl (Flat.rep_enc _ (⟨(1 : Int), (0 : Int), (9 : Int)⟩ : Note)) <| .nil) rfl rfl rfl ?_
 intro du eo H
 refine s_val (x_bld (ps := [(0, I 2), (1, I 26)]) (zs := [I 0, I 0]) (L' := [I 2, I 26]) rfl Try.underlying33 Al33 rfl (Bd33 Try.underlying33) (.cons (cs := [I 2]) rfl rfl rfl rfl rfl <| .cons (cs := [I 26]) rfl rfl rfl rfl rfl <| .nil)) <| s_val (x_bld (ps := [(0, I 3), (1, I 10)]) (zs := [I 0, I 0]) (L' := [I 3, I 10]) rfl Try.underlying33 Al33 rfl (Bd33 Try.underlying33) (.cons (cs := [I 3]) rfl rfl rfl rfl rfl <| .cons (cs := [I 10]) rfl rfl rfl rfl rfl <| .nil)) ?_
 refine t_bs (α := Pub) T24 [.agg #[I 2, I 26], .agg #[I 3, I 10]] [(⟨(2 : Int), (26 : Int)⟩ : Pub), (⟨(3 : Int), (10 : Int)⟩ : Pub)] H rfl (.cons rfl (Flat.rep_enc _ (⟨(2 : Int), (26 : Int)⟩ : Pub)) <| .cons rfl (Flat.rep_enc _ (⟨(3 : Int), (10 : Int)⟩ : Pub)) <| .nil) rfl rfl rfl ?_
 intro dv ep H
 obtain ⟨⟨l5, e5⟩, dw, hM⟩ := M.e_bind hM
 obtain ⟨dx, dy⟩ := Prod.mk.inj (M.e_pure dw)
 try dsimp only at hM
 refine s_call cf26 [bP, du, dv] rfl (by have aW := (Withdrawn_any _ ((rowSl rfl (H.get (k := 2) rfl) (roLe _ (H.get (k := 3) rfl)) dt).mono (Cells.sup_le (ownLe _ (H.get (k := 2) rfl)) (roLe _ (H.get (k := 3) rfl)))) ((ownSl (H.get (k := 1) rfl)).mono (ownLe _ (H.get (k := 1) rfl))) ((ownSl (H.get (k := 0) rfl)).mono (ownLe _ (H.get (k := 0) rfl)))); rw [dx, dy] at aW; exact aW) ?_
 rintro _ eq ⟨bk, rfl, bz, av⟩
 obtain ⟨er, H, bz⟩ := H.fresh av bz
 clear av
 have eu := bz.len_le
 refine sM (.tuple #[bk, I e5]) rfl <| sX [bk, I e5] bk rfl rfl <| sX [bk, I e5] (I e5) rfl rfl <| sA bk rfl <| sA (I e5) rfl <| s_nil <| sQ rfl <| sM (I e5) rfl <| sC e5 0 (e5 == 0) rfl rfl rfl <| sM (B (e5 == 0)) rfl <| g_val (e5 == 0) (gy_t rfl) (fun hg => x_mv (v := bk) rfl) ?_
 refine t_gbs (α := Int) T34 (e5 == 0) (gy_t rfl) [I 0] [(0 : Int)] H (fun _ => rfl) (.cons rfl (Flat.rep_enc _ _) <| .nil) rfl rfl rfl ?_
 intro bQ ew ey H dz
 obtain ⟨s6, bI, hM⟩ := M.e_bind hM
 replace bI := M.e_pure bI
 refine t_gcall (e5 == 0) (gy_t rfl) cf25 (B s6) (fun _ => [bk, bQ]) (fun hg => lst2 (gd_of (c := e5 == 0) hg (bk)) (gd_of (c := e5 == 0) hg (bQ))) H (fun hg => Ret.mono (same_int _ (bz.mono (roLe _ (H.get (k := 1) rfl))) ((dz hg).mono (roLe _ (H.get (k := 0) rfl)))) fun v_ w_ ⟨a7, av⟩ => ⟨a7.trans (congrArg B bI), H.ext av⟩) ?_
 intro ez H
 refine s_val (x_pand (b := e5 == 0) (r := s6) rfl (fun hb => gd_of (c := e5 == 0) (by first | exact hb | (rw [hb]; rfl) | simp_all) (B s6)) rfl) <| sA (B ((e5 == 0) && s6)) rfl <| s_nil ?_
 refine W.ret ?_
 have bp := M.e_pure hM
 exact ⟨_, resE_tmp rfl, ⟨((e5 == 0) && s6), bp, rfl, (H.pick [] (by decide) rfl)⟩⟩

end Go.Proofs.Ytndobgodeicloaa
end
section
set_option maxRecDepth 100000
set_option maxHeartbeats 16000000
namespace Go.Proofs.Ytndobgodeicloaa
open Go Go.Nm
def zbB (bytes : List UInt8) : M (Int × Int) :=
  M.pure (0, 0)
theorem zbX {R : List Chunk} {ab : Cells} {aa : Value} (bytes : List UInt8) (ah : Reads R ab) (ae : Sl ab aa bytes) {r : (Int × Int)} (hM : (zbB bytes).Ends r) (w : World) (H : St w w [] R) : Ret Try.prog 40 #[aa] w fun v w' => ∃ (y0 : Int) (y1 : Int) (nb0 : Nat), (y0, y1) = r /\ v = Pz nb0 /\ St w w' [cBlk nb0 [aa, I y0, I y1] 158] R := by
 refine ret_of_W Try.func40 rfl rfl rfl ?_
 refine sQ rfl <| sA (.pointer none) rfl <| s_nil <| sQ rfl <| sM aa rfl <| s_val (x_bld (ps := [(0, aa)]) (zs := [.slice none 0 0, I 0, I 0]) (L' := [aa, I 0, I 0]) rfl Try.underlying158 Al158 rfl (Bd158 Try.underlying158) (.cons (cs := [aa]) (Sl.cells ae) rfl rfl rfl rfl <| .nil)) ?_
 refine t_box (v := .agg #[aa, I 0, I 0]) (cs := [aa, I 0, I 0]) H rfl rfl ?_
 intro ac ai H
 refine sA (Pz ac) rfl <| s_nil ?_
 refine W.ret ?_
 have ag := M.e_pure hM
 exact ⟨_, resE_tmp rfl, ⟨0, 0, ac, ag, rfl, H⟩⟩

def zaa (s_bytes : List UInt8) (s_used : Int) (s_mix : Int) (n : Int) : M (Int × Int × Int) :=
  bif ((decide (n < 2)) || ((s_bytes.length : Int) == 0)) then (
  M.pure (0, s_used, s_mix))
  else (
  M.grd (decide ((0 : Int) <= s_used) && decide ((0 : Int) < (s_bytes.length : Int))) <|
  M.grd (decide ((0 : Int) <= (s_used % (s_bytes.length : Int))) && decide ((s_used % (s_bytes.length : Int)) < (s_bytes.length : Int))) <|
  M.grd (decide ((0 : Int) <= ((s_bytes.getD (Int.toNat (s_used % (s_bytes.length : Int))) 0).toNat : Int)) && decide (((s_bytes.getD (Int.toNat (s_used % (s_bytes.length : Int))) 0).toNat : Int) < (256 : Int))) <|
  bif decide ((s_bytes.length : Int) <= s_used) then (
  M.grd (decide ((-9223372036854775808 : Int) <= (11 * s_mix)) && decide ((11 * s_mix) <= (9223372036854775807 : Int))) <|
  M.grd (decide (0 <= s_used) && decide (s_used <= (9223372036854775807 : Int)) && decide ((0 : Int) < (s_bytes.length : Int))) <|
  M.grd (decide ((-9223372036854775808 : Int) <= ((11 * s_mix) + (s_used / (s_bytes.length : Int)))) && decide (((11 * s_mix) + (s_used / (s_bytes.length : Int))) <= (9223372036854775807 : Int))) <|
  M.grd (decide ((-9223372036854775808 : Int) <= (((s_bytes.getD (Int.toNat (s_used % (s_bytes.length : Int))) 0).toNat : Int) + ((11 * s_mix) + (s_used / (s_bytes.length : Int))))) && decide ((((s_bytes.getD (Int.toNat (s_used % (s_bytes.length : Int))) 0).toNat : Int) + ((11 * s_mix) + (s_used / (s_bytes.length : Int)))) <= (9223372036854775807 : Int))) <|
  M.grd (decide ((-9223372036854775808 : Int) <= (5 * s_mix)) && decide ((5 * s_mix) <= (9223372036854775807 : Int))) <|
  M.grd (decide ((-9223372036854775808 : Int) <= ((5 * s_mix) + (((s_bytes.getD (Int.toNat (s_used % (s_bytes.length : Int))) 0).toNat : Int) + ((11 * s_mix) + (s_used / (s_bytes.length : Int)))))) && decide (((5 * s_mix) + (((s_bytes.getD (Int.toNat (s_used % (s_bytes.length : Int))) 0).toNat : Int) + ((11 * s_mix) + (s_used / (s_bytes.length : Int))))) <= (9223372036854775807 : Int))) <|
  M.grd (decide ((-9223372036854775808 : Int) <= (((5 * s_mix) + (((s_bytes.getD (Int.toNat (s_used % (s_bytes.length : Int))) 0).toNat : Int) + ((11 * s_mix) + (s_used / (s_bytes.length : Int))))) + 1)) && decide ((((5 * s_mix) + (((s_bytes.getD (Int.toNat (s_used % (s_bytes.length : Int))) 0).toNat : Int) + ((11 * s_mix) + (s_used / (s_bytes.length : Int))))) + 1) <= (9223372036854775807 : Int))) <|
  M.grd (decide ((0 : Int) <= (((5 * s_mix) + (((s_bytes.getD (Int.toNat (s_used % (s_bytes.length : Int))) 0).toNat : Int) + ((11 * s_mix) + (s_used / (s_bytes.length : Int))))) + 1)) && decide ((0 : Int) < 251)) <|
  M.grd (decide ((-9223372036854775808 : Int) <= (s_used + 1)) && decide ((s_used + 1) <= (9223372036854775807 : Int))) <|
  bif decide (256 < n) then (
  M.grd (decide ((-9223372036854775808 : Int) <= (256 * (((s_bytes.getD (Int.toNat (s_used % (s_bytes.length : Int))) 0).toNat : Int) + ((11 * s_mix) + (s_used / (s_bytes.length : Int)))))) && decide ((256 * (((s_bytes.getD (Int.toNat (s_used % (s_bytes.length : Int))) 0).toNat : Int) + ((11 * s_mix) + (s_used / (s_bytes.length : Int))))) <= (9223372036854775807 : Int))) <|
  M.grd (decide ((-9223372036854775808 : Int) <= ((256 * (((s_bytes.getD (Int.toNat (s_used % (s_bytes.length : Int))) 0).toNat : Int) + ((11 * s_mix) + (s_used / (s_bytes.length : Int))))) + ((((5 * s_mix) + (((s_bytes.getD (Int.toNat (s_used % (s_bytes.length : Int))) 0).toNat : Int) + ((11 * s_mix) + (s_used / (s_bytes.length : Int))))) + 1) % 251))) && decide (((256 * (((s_bytes.getD (Int.toNat (s_used % (s_bytes.length : Int))) 0).toNat : Int) + ((11 * s_mix) + (s_used / (s_bytes.length : Int))))) + ((((5 * s_mix) + (((s_bytes.getD (Int.toNat (s_used % (s_bytes.length : Int))) 0).toNat : Int) + ((11 * s_mix) + (s_used / (s_bytes.length : Int))))) + 1) % 251)) <= (9223372036854775807 : Int))) <|
  M.grd (decide ((0 : Int) <= ((256 * (((s_bytes.getD (Int.toNat (s_used % (s_bytes.length : Int))) 0).toNat : Int) + ((11 * s_mix) + (s_used / (s_bytes.length : Int))))) + ((((5 * s_mix) + (((s_bytes.getD (Int.toNat (s_used % (s_bytes.length : Int))) 0).toNat : Int) + ((11 * s_mix) + (s_used / (s_bytes.length : Int))))) + 1) % 251))) && decide ((0 : Int) < n)) <|
  M.pure ((((256 * (((s_bytes.getD (Int.toNat (s_used % (s_bytes.length : Int))) 0).toNat : Int) + ((11 * s_mix) + (s_used / (s_bytes.length : Int))))) + ((((5 * s_mix) + (((s_bytes.getD (Int.toNat (s_used % (s_bytes.length : Int))) 0).toNat : Int) + ((11 * s_mix) + (s_used / (s_bytes.length : Int))))) + 1) % 251)) % n), (s_used + 1), ((((5 * s_mix) + (((s_bytes.getD (Int.toNat (s_used % (s_bytes.length : Int))) 0).toNat : Int) + ((11 * s_mix) + (s_used / (s_bytes.length : Int))))) + 1) % 251)))
  else (
  M.grd (decide ((0 : Int) <= (((s_bytes.getD (Int.toNat (s_used % (s_bytes.length : Int))) 0).toNat : Int) + ((11 * s_mix) + (s_used / (s_bytes.length : Int))))) && decide ((0 : Int) < n)) <|
  M.pure (((((s_bytes.getD (Int.toNat (s_used % (s_bytes.length : Int))) 0).toNat : Int) + ((11 * s_mix) + (s_used / (s_bytes.length : Int)))) % n), (s_used + 1), ((((5 * s_mix) + (((s_bytes.getD (Int.toNat (s_used % (s_bytes.length : Int))) 0).toNat : Int) + ((11 * s_mix) + (s_used / (s_bytes.length : Int))))) + 1) % 251))))
  else (
  M.grd (decide ((-9223372036854775808 : Int) <= (5 * s_mix)) && decide ((5 * s_mix) <= (9223372036854775807 : Int))) <|
  M.grd (decide ((-9223372036854775808 : Int) <= ((5 * s_mix) + ((s_bytes.getD (Int.toNat (s_used % (s_bytes.length : Int))) 0).toNat : Int))) && decide (((5 * s_mix) + ((s_bytes.getD (Int.toNat (s_used % (s_bytes.length : Int))) 0).toNat : Int)) <= (9223372036854775807 : Int))) <|
  M.grd (decide ((-9223372036854775808 : Int) <= (((5 * s_mix) + ((s_bytes.getD (Int.toNat (s_used % (s_bytes.length : Int))) 0).toNat : Int)) + 1)) && decide ((((5 * s_mix) + ((s_bytes.getD (Int.toNat (s_used % (s_bytes.length : Int))) 0).toNat : Int)) + 1) <= (9223372036854775807 : Int))) <|
  M.grd (decide ((0 : Int) <= (((5 * s_mix) + ((s_bytes.getD (Int.toNat (s_used % (s_bytes.length : Int))) 0).toNat : Int)) + 1)) && decide ((0 : Int) < 251)) <|
  M.grd (decide ((-9223372036854775808 : Int) <= (s_used + 1)) && decide ((s_used + 1) <= (9223372036854775807 : Int))) <|
  bif decide (256 < n) then (
  M.grd (decide ((-9223372036854775808 : Int) <= (256 * ((s_bytes.getD (Int.toNat (s_used % (s_bytes.length : Int))) 0).toNat : Int))) && decide ((256 * ((s_bytes.getD (Int.toNat (s_used % (s_bytes.length : Int))) 0).toNat : Int)) <= (9223372036854775807 : Int))) <|
  M.grd (decide ((-9223372036854775808 : Int) <= ((256 * ((s_bytes.getD (Int.toNat (s_used % (s_bytes.length : Int))) 0).toNat : Int)) + ((((5 * s_mix) + ((s_bytes.getD (Int.toNat (s_used % (s_bytes.length : Int))) 0).toNat : Int)) + 1) % 251))) && decide (((256 * ((s_bytes.getD (Int.toNat (s_used % (s_bytes.length : Int))) 0).toNat : Int)) + ((((5 * s_mix) + ((s_bytes.getD (Int.toNat (s_used % (s_bytes.length : Int))) 0).toNat : Int)) + 1) % 251)) <= (9223372036854775807 : Int))) <|
  M.grd (decide ((0 : Int) <= ((256 * ((s_bytes.getD (Int.toNat (s_used % (s_bytes.length : Int))) 0).toNat : Int)) + ((((5 * s_mix) + ((s_bytes.getD (Int.toNat (s_used % (s_bytes.length : Int))) 0).toNat : Int)) + 1) % 251))) && decide ((0 : Int) < n)) <|
  M.pure ((((256 * ((s_bytes.getD (Int.toNat (s_used % (s_bytes.length : Int))) 0).toNat : Int)) + ((((5 * s_mix) + ((s_bytes.getD (Int.toNat (s_used % (s_bytes.length : Int))) 0).toNat : Int)) + 1) % 251)) % n), (s_used + 1), ((((5 * s_mix) + ((s_bytes.getD (Int.toNat (s_used % (s_bytes.length : Int))) 0).toNat : Int)) + 1) % 251)))
  else (
  M.grd (decide ((0 : Int) <= ((s_bytes.getD (Int.toNat (s_used % (s_bytes.length : Int))) 0).toNat : Int)) && decide ((0 : Int) < n)) <|
  M.pure ((((s_bytes.getD (Int.toNat (s_used % (s_bytes.length : Int))) 0).toNat : Int) % n), (s_used + 1), ((((5 * s_mix) + ((s_bytes.getD (Int.toNat (s_used % (s_bytes.length : Int))) 0).toNat : Int)) + 1) % 251)))))
theorem zag {R : List Chunk} {aa : Nat} {al : Cells} {ab : Value} (s_bytes : List UInt8) (s_used : Int) (s_mix : Int) (n : Int) (am : Reads R al) (ac : Sl al ab s_bytes) {r : (Int × Int × Int)} (hM : (zaa s_bytes s_used s_mix n).Ends r) (w : World) (H : St w w [cBlk aa [ab, I s_used, I s_mix] 158] R) : Ret Try.prog 44 #[Pz aa, I n] w fun v w' => ∃ (y0 : Int) (y1 : Int) (y2 : Int), (y0, y1, y2) = r /\ v = I y0 /\ St w w' [cBlk aa [ab, I y1, I y2] 158] R := by
 refine ret_of_W Try.func44 rfl rfl rfl ?_
 refine sQ rfl <| sA (I 0) rfl <| s_nil <| W.seq <| sQ rfl <| sM (I n) rfl <| sC n 2 (decide (n < 2)) rfl rfl rfl <| sM (B (decide (n < 2))) rfl <| g_val (!(decide (n < 2))) (gy_f rfl) (fun hg => x_mv (v := Pz aa) rfl) <| g_val (!(decide (n < 2))) (gy_f rfl) (fun hg => x_nc (a := ⟨aa, 0, none⟩) (gd_of (c := !(decide (n < 2))) hg (Pz aa))) ?_
 refine g_val (!(decide (n < 2))) (gy_f rfl) (fun hg => x_fa (a := Pz aa) (v := Pz aa) (gd_of (c := !(decide (n < 2))) hg (Pz aa)) (fa_blk (o := 0) Fd158_0 Sz62)) <| g_val (!(decide (n < 2))) (gy_f rfl) (fun hg => x_ld (p := Pz aa) (v := ab) (gd_of (c := !(decide (n < 2))) hg (Pz aa)) (ldb_sc Sc62 (H.blk (k := 0) rfl) rfl)) <| g_val (!(decide (n < 2))) (gy_f rfl) (fun hg => x_lenS T62.und (gd_of (c := !(decide (n < 2))) hg (ab)) ac) <| g_val (!(decide (n < 2))) (gy_f rfl) (fun hg => x_cmp (kd := .i64) (a := (s_bytes.length : Int)) (b := 0) (r := (s_bytes.length : Int) == 0) (gd_of (c := !(decide (n < 2))) hg (I (s_bytes.length : Int))) rfl rfl) <| s_val (x_por (b := decide (n < 2)) (r := (s_bytes.length : Int) == 0) rfl rfl (fun hb => gd_of (c := !(decide (n < 2))) (by first | exact hb | (rw [hb]; rfl) | simp_all) (B ((s_bytes.length : Int) == 0)))) <| s_nil ?_
 refine W.cond ((decide (n < 2)) || ((s_bytes.length : Int) == 0)) rfl (fun ak => ?_) (fun ak => ?_)
 ·replace hM := M.e_t hM ak
  refine sQ rfl <| sA (I 0) rfl <| s_nil ?_
  refine W.ret ?_
  have ae := M.e_pure hM
  exact ⟨_, resE_tmp rfl, ⟨0, s_used, s_mix, ae, rfl, H⟩⟩
 replace hM := M.e_f hM ak
 refine W.skip <| W.seq ?_
 refine W.draw (fun W => St w W [cBlk aa [ab, I s_used, I s_mix] 158] R) [(0, true), (1, true), (2, true), (3, true), (4, true), (5, true), (6, true), (7, true), (8, true), (9, true), (10, true), (11, true), (12, true), (13, true), (14, true), (15, true), (16, true), (17, true)] mixed (by decide +kernel) rfl ?_
 intro ao ag
 replace H : St w ao [cBlk aa [ab, I s_used, I s_mix] 158] R := H.ext ag
 clear ag
 refine ⟨(H.pick [0] (by decide) rfl), ?_⟩
 refine d_q rfl (fun w' H => x_mv (v := Pz aa) rfl) ?_
 refine d_q rfl (fun w' H => x_nc (a := ⟨aa, 0, none⟩) rfl) ?_
 refine d_q rfl (fun w' H => x_fa (a := Pz aa) (v := Pz aa) rfl (fa_blk (o := 0) Fd158_0 Sz62)) ?_
 refine d_q rfl (fun w' H => x_ld (p := Pz aa) (v := ab) rfl (ldb_sc Sc62 (H.blk (k := 0) rfl) rfl)) ?_
 refine d_q rfl (fun w' H => x_mv (v := Pz aa) rfl) ?_
 refine d_q rfl (fun w' H => x_nc (a := ⟨aa, 0, none⟩) rfl) ?_
 refine d_q rfl (fun w' H => x_fa (a := Pz aa) (v := Oz aa 1) rfl (fa_blk (o := 0) Fd158_1 Sz3)) ?_
 refine d_q rfl (fun w' H => x_ld (p := Oz aa 1) (v := I s_used) rfl (ldb_sc Sc3 (H.blk (k := 0) rfl) rfl)) ?_
 refine d_q rfl (fun w' H => x_mv (v := Pz aa) rfl) ?_
 refine d_q rfl (fun w' H => x_nc (a := ⟨aa, 0, none⟩) rfl) ?_
 refine d_q rfl (fun w' H => x_fa (a := Pz aa) (v := Pz aa) rfl (fa_blk (o := 0) Fd158_0 Sz62)) ?_
 refine d_q rfl (fun w' H => x_ld (p := Pz aa) (v := ab) rfl (ldb_sc Sc62 (H.blk (k := 0) rfl) rfl)) ?_
 have au := (ac).len_le
 refine d_q rfl (fun w' H => x_lenS T62.und rfl ac) ?_
 obtain ⟨av, hM⟩ := M.e_gd hM
 refine d_q rfl (fun w' H => x_rem' (a := s_used) (b := (s_bytes.length : Int)) rfl rfl (by omega)) ?_
 obtain ⟨aw, hM⟩ := M.e_gd hM
 refine d_q rfl (fun w' H => x_ix (a := ab) (b := I (s_used % (s_bytes.length : Int))) (v := vat ab 1 (Int.toNat (s_used % (s_bytes.length : Int)))) rfl rfl (Sl.ix (α := UInt8) T62.und T62.size ac (by omega) (by omega))) ?_
 refine d_q rfl (fun w' H => x_ld (p := vat ab 1 (Int.toNat (s_used % (s_bytes.length : Int)))) (v := .int .u8 (((s_bytes.getD (Int.toNat (s_used % (s_bytes.length : Int))) 0).toNat : Int))) rfl (ld_sc Sc5 (At.mono (UInt8_at ac (i := s_used % (s_bytes.length : Int)) (by omega) (by omega)) (am.at H)))) ?_
 obtain ⟨ax, hM⟩ := M.e_gd hM
 refine d_q rfl (fun w' H => x_conv64 (kd := .u8) (a := ((s_bytes.getD (Int.toNat (s_used % (s_bytes.length : Int))) 0).toNat : Int)) Try.underlying5 Try.underlying3 rfl (by omega)) ?_
 refine d_q rfl (fun w' H => x_as (v := I ((s_bytes.getD (Int.toNat (s_used % (s_bytes.length : Int))) 0).toNat : Int)) rfl) ?_
 refine d_nil ?_
 refine W.seq <| W.seq ?_
 refine W.draw (fun W => St w W [cBlk aa [ab, I s_used, I s_mix] 158] R) [(0, true), (1, true), (2, true), (3, true), (4, true), (5, true), (6, true), (7, true), (8, true), (9, true)] mixed (by decide +kernel) rfl ?_
 intro ap ag
 replace H : St w ap [cBlk aa [ab, I s_used, I s_mix] 158] R := H.ext ag
 clear ag
 refine ⟨(H.pick [0] (by decide) rfl), ?_⟩
 refine d_q rfl (fun w' H => x_mv (v := Pz aa) rfl) ?_
 refine d_q rfl (fun w' H => x_nc (a := ⟨aa, 0, none⟩) rfl) ?_
 refine d_q rfl (fun w' H => x_fa (a := Pz aa) (v := Oz aa 1) rfl (fa_blk (o := 0) Fd158_1 Sz3)) ?_
 refine d_q rfl (fun w' H => x_ld (p := Oz aa 1) (v := I s_used) rfl (ldb_sc Sc3 (H.blk (k := 0) rfl) rfl)) ?_
 refine d_q rfl (fun w' H => x_mv (v := Pz aa) rfl) ?_
 refine d_q rfl (fun w' H => x_nc (a := ⟨aa, 0, none⟩) rfl) ?_
 refine d_q rfl (fun w' H => x_fa (a := Pz aa) (v := Pz aa) rfl (fa_blk (o := 0) Fd158_0 Sz62)) ?_
 refine d_q rfl (fun w' H => x_ld (p := Pz aa) (v := ab) rfl (ldb_sc Sc62 (H.blk (k := 0) rfl) rfl)) ?_
 have ay := (ac).len_le
 refine d_q rfl (fun w' H => x_lenS T62.und rfl ac) ?_
 refine d_q rfl (fun w' H => x_cmp (kd := .i64) (a := s_used) (b := (s_bytes.length : Int)) (r := decide ((s_bytes.length : Int) <= s_used)) rfl rfl rfl) ?_
 refine d_nil ?_
 refine W.cond (decide ((s_bytes.length : Int) <= s_used)) rfl (fun ah => ?_) (fun ah => ?_)
 ·replace hM := M.e_t hM ah
  simp only [qz1, qz2, qz3, qz4, qz5, qz6, ne_eq, qz7] at ah
  refine W.draw (fun W => St w W [cBlk aa [ab, I s_used, I s_mix] 158] R) [(0, true), (1, true), (2, true), (3, true), (4, true), (5, true), (6, true), (7, true), (8, true), (9, true), (10, true), (11, true), (12, true), (13, true), (14, true), (15, true), (16, true), (17, true), (18, true)] mixed (by decide +kernel) rfl ?_
  intro aq ag
  replace H : St w aq [cBlk aa [ab, I s_used, I s_mix] 158] R := H.ext ag
  clear ag
  refine ⟨(H.pick [0] (by decide) rfl), ?_⟩
  refine d_q rfl (fun w' H => x_mv (v := I ((s_bytes.getD (Int.toNat (s_used % (s_bytes.length : Int))) 0).toNat : Int)) rfl) ?_
  refine d_q rfl (fun w' H => x_mv (v := Pz aa) rfl) ?_
  refine d_q rfl (fun w' H => x_nc (a := ⟨aa, 0, none⟩) rfl) ?_
  refine d_q rfl (fun w' H => x_fa (a := Pz aa) (v := Oz aa 2) rfl (fa_blk (o := 0) Fd158_2 Sz3)) ?_
  refine d_q rfl (fun w' H => x_ld (p := Oz aa 2) (v := I s_mix) rfl (ldb_sc Sc3 (H.blk (k := 0) rfl) rfl)) ?_
  obtain ⟨az, hM⟩ := M.e_gd hM
  refine d_q rfl (fun w' H => x_ari (a := 11) (b := s_mix) (r := 11 * s_mix) rfl rfl rfl (by omega)) ?_
  refine d_q rfl (fun w' H => x_mv (v := Pz aa) rfl) ?_
  refine d_q rfl (fun w' H => x_nc (a := ⟨aa, 0, none⟩) rfl) ?_
  refine d_q rfl (fun w' H => x_fa (a := Pz aa) (v := Oz aa 1) rfl (fa_blk (o := 0) Fd158_1 Sz3)) ?_
  refine d_q rfl (fun w' H => x_ld (p := Oz aa 1) (v := I s_used) rfl (ldb_sc Sc3 (H.blk (k := 0) rfl) rfl)) ?_
  refine d_q rfl (fun w' H => x_mv (v := Pz aa) rfl) ?_
  refine d_q rfl (fun w' H => x_nc (a := ⟨aa, 0, none⟩) rfl) ?_
  refine d_q rfl (fun w' H => x_fa (a := Pz aa) (v := Pz aa) rfl (fa_blk (o := 0) Fd158_0 Sz62)) ?_
  refine d_q rfl (fun w' H => x_ld (p := Pz aa) (v := ab) rfl (ldb_sc Sc62 (H.blk (k := 0) rfl) rfl)) ?_
  have aA := (ac).len_le
  refine d_q rfl (fun w' H => x_lenS T62.und rfl ac) ?_
  obtain ⟨aB, hM⟩ := M.e_gd hM
  refine d_q rfl (fun w' H => x_quo (a := s_used) (b := (s_bytes.length : Int)) rfl rfl (by omega)) ?_
  obtain ⟨aC, hM⟩ := M.e_gd hM
  refine d_q rfl (fun w' H => x_ari (a := 11 * s_mix) (b := s_used / (s_bytes.length : Int)) (r := (11 * s_mix) + (s_used / (s_bytes.length : Int))) rfl rfl rfl (by omega)) ?_
  obtain ⟨aD, hM⟩ := M.e_gd hM
  refine d_q rfl (fun w' H => x_ari (a := ((s_bytes.getD (Int.toNat (s_used % (s_bytes.length : Int))) 0).toNat : Int)) (b := (11 * s_mix) + (s_used / (s_bytes.length : Int))) (r := ((s_bytes.getD (Int.toNat (s_used % (s_bytes.length : Int))) 0).toNat : Int) + ((11 * s_mix) + (s_used / (s_bytes.length : Int)))) rfl rfl rfl (by omega)) ?_
  refine d_q rfl (fun w' H => x_as (v := I (((s_bytes.getD (Int.toNat (s_used % (s_bytes.length : Int))) 0).toNat : Int) + ((11 * s_mix) + (s_used / (s_bytes.length : Int))))) rfl) ?_
  refine d_nil ?_
  refine sQ rfl <| sM (Pz aa) rfl <| sM (Pz aa) rfl <| s_val (x_nc (a := ⟨aa, 0, none⟩) rfl) <| s_val (x_fa (a := Pz aa) (v := Oz aa 2) rfl (fa_blk (o := 0) Fd158_2 Sz3)) <| s_val (x_ld (p := Oz aa 2) (v := I s_mix) rfl (ldb_sc Sc3 (H.blk (k := 0) rfl) rfl)) ?_
  obtain ⟨aE, hM⟩ := M.e_gd hM
  refine sR 5 s_mix (5 * s_mix) rfl rfl rfl (by omega) <| sM (I (((s_bytes.getD (Int.toNat (s_used % (s_bytes.length : Int))) 0).toNat : Int) + ((11 * s_mix) + (s_used / (s_bytes.length : Int))))) rfl ?_
  obtain ⟨aF, hM⟩ := M.e_gd hM
  refine sR (5 * s_mix) (((s_bytes.getD (Int.toNat (s_used % (s_bytes.length : Int))) 0).toNat : Int) + ((11 * s_mix) + (s_used / (s_bytes.length : Int)))) ((5 * s_mix) + (((s_bytes.getD (Int.toNat (s_used % (s_bytes.length : Int))) 0).toNat : Int) + ((11 * s_mix) + (s_used / (s_bytes.length : Int))))) rfl rfl rfl (by omega) ?_
  obtain ⟨aG, hM⟩ := M.e_gd hM
  refine sR ((5 * s_mix) + (((s_bytes.getD (Int.toNat (s_used % (s_bytes.length : Int))) 0).toNat : Int) + ((11 * s_mix) + (s_used / (s_bytes.length : Int))))) 1 (((5 * s_mix) + (((s_bytes.getD (Int.toNat (s_used % (s_bytes.length : Int))) 0).toNat : Int) + ((11 * s_mix) + (s_used / (s_bytes.length : Int))))) + 1) rfl rfl rfl (by omega) ?_
  obtain ⟨aH, hM⟩ := M.e_gd hM
  refine s_val (x_rem' (a := ((5 * s_mix) + (((s_bytes.getD (Int.toNat (s_used % (s_bytes.length : Int))) 0).toNat : Int) + ((11 * s_mix) + (s_used / (s_bytes.length : Int))))) + 1) (b := 251) rfl rfl (by omega)) <| s_val (x_nc (a := ⟨aa, 0, none⟩) rfl) <| s_val (x_fa (a := Pz aa) (v := Oz aa 2) rfl (fa_blk (o := 0) Fd158_2 Sz3)) ?_
  refine t_st (k := 0) (b := aa) (off := 2) (cs := [ab, I s_used, I s_mix]) (vs := [I ((((5 * s_mix) + (((s_bytes.getD (Int.toNat (s_used % (s_bytes.length : Int))) 0).toNat : Int) + ((11 * s_mix) + (s_used / (s_bytes.length : Int))))) + 1) % 251)]) (cs' := [ab, I s_used, I ((((5 * s_mix) + (((s_bytes.getD (Int.toNat (s_used % (s_bytes.length : Int))) 0).toNat : Int) + ((11 * s_mix) + (s_used / (s_bytes.length : Int))))) + 1) % 251)]) (v := I ((((5 * s_mix) + (((s_bytes.getD (Int.toNat (s_used % (s_bytes.length : Int))) 0).toNat : Int) + ((11 * s_mix) + (s_used / (s_bytes.length : Int))))) + 1) % 251)) (L' := [cBlk aa [ab, I s_used, I ((((5 * s_mix) + (((s_bytes.getD (Int.toNat (s_used % (s_bytes.length : Int))) 0).toNat : Int) + ((11 * s_mix) + (s_used / (s_bytes.length : Int))))) + 1) % 251)] 158]) H rfl rfl rfl Sz3 rfl rfl rfl rfl rfl rfl ?_
  intro aI H
  refine s_nil <| sQ rfl <| sM (Pz aa) rfl <| s_val (x_nc (a := ⟨aa, 0, none⟩) rfl) <| s_val (x_fa (a := Pz aa) (v := Oz aa 1) rfl (fa_blk (o := 0) Fd158_1 Sz3)) <| s_val (x_ld (p := Oz aa 1) (v := I s_used) rfl (ldb_sc Sc3 (H.blk (k := 0) rfl) rfl)) ?_
  obtain ⟨aJ, hM⟩ := M.e_gd hM
  refine sR s_used 1 (s_used + 1) rfl rfl rfl (by omega) <| s_val (x_nc (a := ⟨aa, 0, none⟩) rfl) <| s_val (x_fa (a := Pz aa) (v := Oz aa 1) rfl (fa_blk (o := 0) Fd158_1 Sz3)) ?_
  refine t_st (k := 0) (b := aa) (off := 1) (cs := [ab, I s_used, I ((((5 * s_mix) + (((s_bytes.getD (Int.toNat (s_used % (s_bytes.length : Int))) 0).toNat : Int) + ((11 * s_mix) + (s_used / (s_bytes.length : Int))))) + 1) % 251)]) (vs := [I (s_used + 1)]) (cs' := [ab, I (s_used + 1), I ((((5 * s_mix) + (((s_bytes.getD (Int.toNat (s_used % (s_bytes.length : Int))) 0).toNat : Int) + ((11 * s_mix) + (s_used / (s_bytes.length : Int))))) + 1) % 251)]) (v := I (s_used + 1)) (L' := [cBlk aa [ab, I (s_used + 1), I ((((5 * s_mix) + (((s_bytes.getD (Int.toNat (s_used % (s_bytes.length : Int))) 0).toNat : Int) + ((11 * s_mix) + (s_used / (s_bytes.length : Int))))) + 1) % 251)] 158]) H rfl rfl rfl Sz3 rfl rfl rfl rfl rfl rfl ?_
  intro aK H
  refine s_nil <| W.seq <| sQ rfl <| sM (I n) rfl <| sC n 256 (decide (256 < n)) rfl rfl rfl <| s_nil ?_
  refine W.cond (decide (256 < n)) rfl (fun ai => ?_) (fun ai => ?_)
  ·replace hM := M.e_t hM ai
   simp only [qz1, qz2, qz3, qz4, qz5, qz6, ne_eq, qz7] at ai
   refine W.region rfl <| sM (I (((s_bytes.getD (Int.toNat (s_used % (s_bytes.length : Int))) 0).toNat : Int) + ((11 * s_mix) + (s_used / (s_bytes.length : Int))))) rfl ?_
   obtain ⟨aL, hM⟩ := M.e_gd hM
   refine sR 256 (((s_bytes.getD (Int.toNat (s_used % (s_bytes.length : Int))) 0).toNat : Int) + ((11 * s_mix) + (s_used / (s_bytes.length : Int)))) (256 * (((s_bytes.getD (Int.toNat (s_used % (s_bytes.length : Int))) 0).toNat : Int) + ((11 * s_mix) + (s_used / (s_bytes.length : Int))))) rfl rfl rfl (by omega) <| sM (Pz aa) rfl <| s_val (x_nc (a := ⟨aa, 0, none⟩) rfl) <| s_val (x_fa (a := Pz aa) (v := Oz aa 2) rfl (fa_blk (o := 0) Fd158_2 Sz3)) <| s_val (x_ld (p := Oz aa 2) (v := I ((((5 * s_mix) + (((s_bytes.getD (Int.toNat (s_used % (s_bytes.length : Int))) 0).toNat : Int) + ((11 * s_mix) + (s_used / (s_bytes.length : Int))))) + 1) % 251)) rfl (ldb_sc Sc3 (H.blk (k := 0) rfl) rfl)) ?_
   obtain ⟨aM, hM⟩ := M.e_gd hM
   refine sR (256 * (((s_bytes.getD (Int.toNat (s_used % (s_bytes.length : Int))) 0).toNat : Int) + ((11 * s_mix) + (s_used / (s_bytes.length : Int))))) ((((5 * s_mix) + (((s_bytes.getD (Int.toNat (s_used % (s_bytes.length : Int))) 0).toNat : Int) + ((11 * s_mix) + (s_used / (s_bytes.length : Int))))) + 1) % 251) ((256 * (((s_bytes.getD (Int.toNat (s_used % (s_bytes.length : Int))) 0).toNat : Int) + ((11 * s_mix) + (s_used / (s_bytes.length : Int))))) + ((((5 * s_mix) + (((s_bytes.getD (Int.toNat (s_used % (s_bytes.length : Int))) 0).toNat : Int) + ((11 * s_mix) + (s_used / (s_bytes.length : Int))))) + 1) % 251)) rfl rfl rfl (by omega) <| sA (I ((256 * (((s_bytes.getD (Int.toNat (s_used % (s_bytes.length : Int))) 0).toNat : Int) + ((11 * s_mix) + (s_used / (s_bytes.length : Int))))) + ((((5 * s_mix) + (((s_bytes.getD (Int.toNat (s_used % (s_bytes.length : Int))) 0).toNat : Int) + ((11 * s_mix) + (s_used / (s_bytes.length : Int))))) + 1) % 251))) rfl <| s_nil <| sQ rfl <| sM (I ((256 * (((s_bytes.getD (Int.toNat (s_used % (s_bytes.length : Int))) 0).toNat : Int) + ((11 * s_mix) + (s_used / (s_bytes.length : Int))))) + ((((5 * s_mix) + (((s_bytes.getD (Int.toNat (s_used % (s_bytes.length : Int))) 0).toNat : Int) + ((11 * s_mix) + (s_used / (s_bytes.length : Int))))) + 1) % 251))) rfl <| sM (I n) rfl ?_
   obtain ⟨aN, hM⟩ := M.e_gd hM
   refine s_val (x_rem' (a := (256 * (((s_bytes.getD (Int.toNat (s_used % (s_bytes.length : Int))) 0).toNat : Int) + ((11 * s_mix) + (s_used / (s_bytes.length : Int))))) + ((((5 * s_mix) + (((s_bytes.getD (Int.toNat (s_used % (s_bytes.length : Int))) 0).toNat : Int) + ((11 * s_mix) + (s_used / (s_bytes.length : Int))))) + 1) % 251)) (b := n) rfl rfl (by omega)) <| sA (I (((256 * (((s_bytes.getD (Int.toNat (s_used % (s_bytes.length : Int))) 0).toNat : Int) + ((11 * s_mix) + (s_used / (s_bytes.length : Int))))) + ((((5 * s_mix) + (((s_bytes.getD (Int.toNat (s_used % (s_bytes.length : Int))) 0).toNat : Int) + ((11 * s_mix) + (s_used / (s_bytes.length : Int))))) + 1) % 251)) % n)) rfl <| s_nil ?_
   refine W.ret ?_
   have ae := M.e_pure hM
   exact ⟨_, resE_tmp rfl, ⟨(((256 * (((s_bytes.getD (Int.toNat (s_used % (s_bytes.length : Int))) 0).toNat : Int) + ((11 * s_mix) + (s_used / (s_bytes.length : Int))))) + ((((5 * s_mix) + (((s_bytes.getD (Int.toNat (s_used % (s_bytes.length : Int))) 0).toNat : Int) + ((11 * s_mix) + (s_used / (s_bytes.length : Int))))) + 1) % 251)) % n), (s_used + 1), ((((5 * s_mix) + (((s_bytes.getD (Int.toNat (s_used % (s_bytes.length : Int))) 0).toNat : Int) + ((11 * s_mix) + (s_used / (s_bytes.length : Int))))) + 1) % 251), ae, rfl, H⟩⟩
  replace hM := M.e_f hM ai
  simp only [qz1, qz2, qz3, qz4, qz5, qz6, ne_eq, qz7] at ai
  refine W.skip <| sQ rfl <| sM (I (((s_bytes.getD (Int.toNat (s_used % (s_bytes.length : Int))) 0).toNat : Int) + ((11 * s_mix) + (s_used / (s_bytes.length : Int))))) rfl <| sM (I n) rfl ?_
  obtain ⟨aO, hM⟩ := M.e_gd hM
  refine s_val (x_rem' (a := ((s_bytes.getD (Int.toNat (s_used % (s_bytes.length : Int))) 0).toNat : Int) + ((11 * s_mix) + (s_used / (s_bytes.length : Int)))) (b := n) rfl rfl (by omega)) <| sA (I ((((s_bytes.getD (Int.toNat (s_used % (s_bytes.length : Int))) 0).toNat : Int) + ((11 * s_mix) + (s_used / (s_bytes.length : Int)))) % n)) rfl <| s_nil ?_
  refine W.ret ?_
  have ae := M.e_pure hM
  exact ⟨_, resE_tmp rfl, ⟨((((s_bytes.getD (Int.toNat (s_used % (s_bytes.length : Int))) 0).toNat : Int) + ((11 * s_mix) + (s_used / (s_bytes.length : Int)))) % n), (s_used + 1), ((((5 * s_mix) + (((s_bytes.getD (Int.toNat (s_used % (s_bytes.length : Int))) 0).toNat : Int) + ((11 * s_mix) + (s_used / (s_bytes.length : Int))))) + 1) % 251), ae, rfl, H⟩⟩
 replace hM := M.e_f hM ah
 simp only [qz1, qz2, qz3, qz4, qz5, qz6, ne_eq, qz7] at ah
 refine W.skip <| sQ rfl <| sM (Pz aa) rfl <| sM (Pz aa) rfl <| s_val (x_nc (a := ⟨aa, 0, none⟩) rfl) <| s_val (x_fa (a := Pz aa) (v := Oz aa 2) rfl (fa_blk (o := 0) Fd158_2 Sz3)) <| s_val (x_ld (p := Oz aa 2) (v := I s_mix) rfl (ldb_sc Sc3 (H.blk (k := 0) rfl) rfl)) ?_
 obtain ⟨aP, hM⟩ := M.e_gd hM
 refine sR 5 s_mix (5 * s_mix) rfl rfl rfl (by omega) <| sM (I ((s_bytes.getD (Int.toNat (s_used % (s_bytes.length : Int))) 0).toNat : Int)) rfl ?_
 obtain ⟨aQ, hM⟩ := M.e_gd hM
 refine sR (5 * s_mix) ((s_bytes.getD (Int.toNat (s_used % (s_bytes.length : Int))) 0).toNat : Int) ((5 * s_mix) + ((s_bytes.getD (Int.toNat (s_used % (s_bytes.length : Int))) 0).toNat : Int)) rfl rfl rfl (by omega) ?_
 obtain ⟨aR, hM⟩ := M.e_gd hM
 refine sR ((5 * s_mix) + ((s_bytes.getD (Int.toNat (s_used % (s_bytes.length : Int))) 0).toNat : Int)) 1 (((5 * s_mix) + ((s_bytes.getD (Int.toNat (s_used % (s_bytes.length : Int))) 0).toNat : Int)) + 1) rfl rfl rfl (by omega) ?_
 obtain ⟨aS, hM⟩ := M.e_gd hM
 refine s_val (x_rem' (a := ((5 * s_mix) + ((s_bytes.getD (Int.toNat (s_used % (s_bytes.length : Int))) 0).toNat : Int)) + 1) (b := 251) rfl rfl (by omega)) <| s_val (x_nc (a := ⟨aa, 0, none⟩) rfl) <| s_val (x_fa (a := Pz aa) (v := Oz aa 2) rfl (fa_blk (o := 0) Fd158_2 Sz3)) ?_
 refine t_st (k := 0) (b := aa) (off := 2) (cs := [ab, I s_used, I s_mix]) (vs := [I ((((5 * s_mix) + ((s_bytes.getD (Int.toNat (s_used % (s_bytes.length : Int))) 0).toNat : Int)) + 1) % 251)]) (cs' := [ab, I s_used, I ((((5 * s_mix) + ((s_bytes.getD (Int.toNat (s_used % (s_bytes.length : Int))) 0).toNat : Int)) + 1) % 251)]) (v := I ((((5 * s_mix) + ((s_bytes.getD (Int.toNat (s_used % (s_bytes.length : Int))) 0).toNat : Int)) + 1) % 251)) (L' := [cBlk aa [ab, I s_used, I ((((5 * s_mix) + ((s_bytes.getD (Int.toNat (s_used % (s_bytes.length : Int))) 0).toNat : Int)) + 1) % 251)] 158]) H rfl rfl rfl Sz3 rfl rfl rfl rfl rfl rfl ?_
 intro aT H
 refine s_nil <| sQ rfl <| sM (Pz aa) rfl <| s_val (x_nc (a := ⟨aa, 0, none⟩) rfl) <| s_val (x_fa (a := Pz aa) (v := Oz aa 1) rfl (fa_blk (o := 0) Fd158_1 Sz3)) <| s_val (x_ld (p := Oz aa 1) (v := I s_used) rfl (ldb_sc Sc3 (H.blk (k := 0) rfl) rfl)) ?_
 obtain ⟨aU, hM⟩ := M.e_gd hM
 refine sR s_used 1 (s_used + 1) rfl rfl rfl (by omega) <| s_val (x_nc (a := ⟨aa, 0, none⟩) rfl) <| s_val (x_fa (a := Pz aa) (v := Oz aa 1) rfl (fa_blk (o := 0) Fd158_1 Sz3)) ?_
 refine t_st (k := 0) (b := aa) (off := 1) (cs := [ab, I s_used, I ((((5 * s_mix) + ((s_bytes.getD (Int.toNat (s_used % (s_bytes.length : Int))) 0).toNat : Int)) + 1) % 251)]) (vs := [I (s_used + 1)]) (cs' := [ab, I (s_used + 1), I ((((5 * s_mix) + ((s_bytes.getD (Int.toNat (s_used % (s_bytes.length : Int))) 0).toNat : Int)) + 1) % 251)]) (v := I (s_used + 1)) (L' := [cBlk aa [ab, I (s_used + 1), I ((((5 * s_mix) + ((s_bytes.getD (Int.toNat (s_used % (s_bytes.length : Int))) 0).toNat : Int)) + 1) % 251)] 158]) H rfl rfl rfl Sz3 rfl rfl rfl rfl rfl rfl ?_
 intro aV H
 refine s_nil <| W.seq <| sQ rfl <| sM (I n) rfl <| sC n 256 (decide (256 < n)) rfl rfl rfl <| s_nil ?_
 refine W.cond (decide (256 < n)) rfl (fun aj => ?_) (fun aj => ?_)
 ·replace hM := M.e_t hM aj
  simp only [qz1, qz2, qz3, qz4, qz5, qz6, ne_eq, qz7] at aj
  refine W.region rfl <| sM (I ((s_bytes.getD (Int.toNat (s_used % (s_bytes.length : Int))) 0).toNat : Int)) rfl ?_
  obtain ⟨aW, hM⟩ := M.e_gd hM
  refine sR 256 ((s_bytes.getD (Int.toNat (s_used % (s_bytes.length : Int))) 0).toNat : Int) (256 * ((s_bytes.getD (Int.toNat (s_used % (s_bytes.length : Int))) 0).toNat : Int)) rfl rfl rfl (by omega) <| sM (Pz aa) rfl <| s_val (x_nc (a := ⟨aa, 0, none⟩) rfl) <| s_val (x_fa (a := Pz aa) (v := Oz aa 2) rfl (fa_blk (o := 0) Fd158_2 Sz3)) <| s_val (x_ld (p := Oz aa 2) (v := I ((((5 * s_mix) + ((s_bytes.getD (Int.toNat (s_used % (s_bytes.length : Int))) 0).toNat : Int)) + 1) % 251)) rfl (ldb_sc Sc3 (H.blk (k := 0) rfl) rfl)) ?_
  obtain ⟨aX, hM⟩ := M.e_gd hM
  refine sR (256 * ((s_bytes.getD (Int.toNat (s_used % (s_bytes.length : Int))) 0).toNat : Int)) ((((5 * s_mix) + ((s_bytes.getD (Int.toNat (s_used % (s_bytes.length : Int))) 0).toNat : Int)) + 1) % 251) ((256 * ((s_bytes.getD (Int.toNat (s_used % (s_bytes.length : Int))) 0).toNat : Int)) + ((((5 * s_mix) + ((s_bytes.getD (Int.toNat (s_used % (s_bytes.length : Int))) 0).toNat : Int)) + 1) % 251)) rfl rfl rfl (by omega) <| sA (I ((256 * ((s_bytes.getD (Int.toNat (s_used % (s_bytes.length : Int))) 0).toNat : Int)) + ((((5 * s_mix) + ((s_bytes.getD (Int.toNat (s_used % (s_bytes.length : Int))) 0).toNat : Int)) + 1) % 251))) rfl <| s_nil <| sQ rfl <| sM (I ((256 * ((s_bytes.getD (Int.toNat (s_used % (s_bytes.length : Int))) 0).toNat : Int)) + ((((5 * s_mix) + ((s_bytes.getD (Int.toNat (s_used % (s_bytes.length : Int))) 0).toNat : Int)) + 1) % 251))) rfl <| sM (I n) rfl ?_
  obtain ⟨aY, hM⟩ := M.e_gd hM
  refine s_val (x_rem' (a := (256 * ((s_bytes.getD (Int.toNat (s_used % (s_bytes.length : Int))) 0).toNat : Int)) + ((((5 * s_mix) + ((s_bytes.getD (Int.toNat (s_used % (s_bytes.length : Int))) 0).toNat : Int)) + 1) % 251)) (b := n) rfl rfl (by omega)) <| sA (I (((256 * ((s_bytes.getD (Int.toNat (s_used % (s_bytes.length : Int))) 0).toNat : Int)) + ((((5 * s_mix) + ((s_bytes.getD (Int.toNat (s_used % (s_bytes.length : Int))) 0).toNat : Int)) + 1) % 251)) % n)) rfl <| s_nil ?_
  refine W.ret ?_
  have ae := M.e_pure hM
  exact ⟨_, resE_tmp rfl, ⟨(((256 * ((s_bytes.getD (Int.toNat (s_used % (s_bytes.length : Int))) 0).toNat : Int)) + ((((5 * s_mix) + ((s_bytes.getD (Int.toNat (s_used % (s_bytes.length : Int))) 0).toNat : Int)) + 1) % 251)) % n), (s_used + 1), ((((5 * s_mix) + ((s_bytes.getD (Int.toNat (s_used % (s_bytes.length : Int))) 0).toNat : Int)) + 1) % 251), ae, rfl, H⟩⟩
 replace hM := M.e_f hM aj
 simp only [qz1, qz2, qz3, qz4, qz5, qz6, ne_eq, qz7] at aj
 refine W.skip <| sQ rfl <| sM (I ((s_bytes.getD (Int.toNat (s_used % (s_bytes.length : Int))) 0).toNat : Int)) rfl <| sM (I n) rfl ?_
 obtain ⟨aZ, hM⟩ := M.e_gd hM
 refine s_val (x_rem' (a := ((s_bytes.getD (Int.toNat (s_used % (s_bytes.length : Int))) 0).toNat : Int)) (b := n) rfl rfl (by omega)) <| sA (I (((s_bytes.getD (Int.toNat (s_used % (s_bytes.length : Int))) 0).toNat : Int) % n)) rfl <| s_nil ?_
 refine W.ret ?_
 have ae := M.e_pure hM
 exact ⟨_, resE_tmp rfl, ⟨(((s_bytes.getD (Int.toNat (s_used % (s_bytes.length : Int))) 0).toNat : Int) % n), (s_used + 1), ((((5 * s_mix) + ((s_bytes.getD (Int.toNat (s_used % (s_bytes.length : Int))) 0).toNat : Int)) + 1) % 251), ae, rfl, H⟩⟩

def zba (s_bytes : List UInt8) (s_used : Int) (s_mix : Int) (lo : Int) (hi : Int) : M (Int × Int × Int) :=
  M.grd (decide ((-9223372036854775808 : Int) <= (hi - lo)) && decide ((hi - lo) <= (9223372036854775807 : Int))) <|
  M.grd (decide ((-9223372036854775808 : Int) <= ((hi - lo) + 1)) && decide (((hi - lo) + 1) <= (9223372036854775807 : Int))) <|
  M.bind (zaa s_bytes s_used s_mix ((hi - lo) + 1)) fun (r2, q1, q2) =>
  M.grd (decide ((-9223372036854775808 : Int) <= (lo + r2)) && decide ((lo + r2) <= (9223372036854775807 : Int))) <|
  M.pure ((lo + r2), q1, q2)
theorem zcd {R : List Chunk} {aa : Nat} {ac : Cells} {ab : Value} (s_bytes : List UInt8) (s_used : Int) (s_mix : Int) (lo : Int) (hi : Int) (ag : Reads R ac) (ah : Sl ac ab s_bytes) {r : (Int × Int × Int)} (hM : (zba s_bytes s_used s_mix lo hi).Ends r) (w : World) (H : St w w [cBlk aa [ab, I s_used, I s_mix] 158] R) : Ret Try.prog 43 #[Pz aa, I lo, I hi] w fun v w' => ∃ (y0 : Int) (y1 : Int) (y2 : Int), (y0, y1, y2) = r /\ v = I y0 /\ St w w' [cBlk aa [ab, I y1, I y2] 158] R := by
 refine ret_of_W Try.func43 rfl rfl rfl ?_
 refine sQ rfl <| sA (I 0) rfl <| s_nil <| sQ rfl <| sM (I lo) rfl <| sM (Pz aa) rfl <| sM (I hi) rfl <| sM (I lo) rfl ?_
 obtain ⟨am, hM⟩ := M.e_gd hM
 refine sR hi lo (hi - lo) rfl rfl rfl (by omega) ?_
 obtain ⟨ao, hM⟩ := M.e_gd hM
 refine sR (hi - lo) 1 ((hi - lo) + 1) rfl rfl rfl (by omega) ?_
 obtain ⟨ap, ai, hM⟩ := M.e_bind hM
 refine s_call cf44 [Pz aa, I ((hi - lo) + 1)] rfl (zag s_bytes s_used s_mix ((hi - lo) + 1) (ag.app _) ah ai _ (St.give (T := []) H rfl)) ?_
 rintro vq aj ⟨r2, q1, q2, ak, hvq, ae⟩
 subst ak
 subst vq
 try dsimp only at hM
 replace H : St w aj [cBlk aa [ab, I q1, I q2] 158] R := H.back ae rfl
 clear ae
 obtain ⟨aq, hM⟩ := M.e_gd hM
 refine sR lo r2 (lo + r2) rfl rfl rfl (by omega) <| sA (I (lo + r2)) rfl <| s_nil ?_
 refine W.ret ?_
 have al := M.e_pure hM
 exact ⟨_, resE_tmp rfl, ⟨(lo + r2), q1, q2, al, rfl, H⟩⟩

def zaT (s_bytes : List UInt8) (s8 : Nat) : (Int × Int × Int × (List Int)) -> M ((Int × Int × Int × (List Int)) ⊕ (Int × Int × (List Int) × (List Int))) := fun (s2, s3, k, l) =>
  bif (((decide (0 <= k)) && (decide ((l.length : Int) < 5))) && (decide (2 < (s8 : Int)))) then (
  M.bind (zaa s_bytes s2 s3 3) fun (r5, aa, ab) =>
  bif r5 == 0 then (
  M.grd (decide ((l.length + ([(k : Int)]).length) * 8 <= 140737488355328)) <|
  M.grd (decide ((-9223372036854775808 : Int) <= (k - 1)) && decide ((k - 1) <= (9223372036854775807 : Int))) <|
  M.pure (.inl (aa, ab, k - 1, l ++ ([(k : Int)]))))
  else (
  M.grd (decide ((-9223372036854775808 : Int) <= (k - 1)) && decide ((k - 1) <= (9223372036854775807 : Int))) <|
  M.pure (.inl (aa, ab, k - 1, l))))
  else (
  M.pure (.inr (s2, s3, l, l)))
def za5 (s_bytes : List UInt8) (r2 : Int) : (Int × Int × Nat × (List Work)) -> M ((Int × Int × Nat × (List Work)) ⊕ ((List Work) × (List Work) × Int × Int)) := fun (s6, s7, s8, l4) =>
  bif decide ((s8 : Int) < r2) then (
  M.bind (zaa s_bytes s6 s7 2000) fun (r3, aa, ab) =>
  M.bind (zaa s_bytes aa ab 60) fun (r4, ac, ae) =>
  M.grd (decide ((-9223372036854775808 : Int) <= ((s8 : Int) - 1)) && decide (((s8 : Int) - 1) <= (9223372036854775807 : Int))) <|
  M.bind (M.iter (zaT s_bytes s8) (ac, ae, (s8 : Int) - 1, [])) fun (s4, s5, l2, l3) =>
  M.grd (decide ((l4.length + ([(⟨l3, (r3 : Int), (r4 : Int)⟩ : Work)]).length) * 40 <= 140737488355328)) <|
  M.grd (decide ((-9223372036854775808 : Int) <= ((s8 : Int) + 1)) && decide (((s8 : Int) + 1) <= (9223372036854775807 : Int))) <|
  M.pure (.inl (s4, s5, s8 + 1, l4 ++ ([(⟨l3, (r3 : Int), (r4 : Int)⟩ : Work)]))))
  else (
  M.pure (.inr (l4, l4, s6, s7)))
def zbg (s_bytes : List UInt8) (s_used : Int) (s_mix : Int) (most : Int) : M ((List Work) × Int × Int) :=
  M.bind (zba s_bytes s_used s_mix 2 most) fun (r2, q1, q2) =>
  M.bind (M.iter (za5 s_bytes r2) (q1, q2, 0, [])) fun (l5, l6, s9, aa) =>
  M.pure (l6, s9, aa)
theorem zb5 {R : List Chunk} {aa : Nat} {aL : Cells} {ah : Value} (s_bytes : List UInt8) (s_used : Int) (s_mix : Int) (most : Int) (au : Reads R aL) (av : Sl aL ah s_bytes) {r : ((List Work) × Int × Int)} (hM : (zbg s_bytes s_used s_mix most).Ends r) (w : World) (H : St w w [cBlk aa [ah, I s_used, I s_mix] 158] R) : Ret Try.prog 41 #[Pz aa, I most] w fun v w' => ∃ (y0 : List Work) (y1 : Int) (y2 : Int) (u0 : Value) (rr1 : List (Raw 2)) (aM : Base), (y0, y1, y2) = r /\ v = u0 /\ St w w' [cOwn (α := Raw 2) 60 u0 rr1, cRo aM, cBlk aa [ah, I y1, I y2] 158] R /\ RepR (α := Work) aM.cells rr1 y0 := by
 refine ret_of_W Try.func41 rfl rfl rfl ?_
 refine sQ rfl <| sA (.slice none 0 0) rfl <| s_nil <| sQ rfl <| sA (.slice none 0 0) rfl <| s_nil <| W.seq <| sQ rfl <| sM (Pz aa) rfl ?_
 refine sM (I most) rfl ?_
 obtain ⟨bD, aX, hM⟩ := M.e_bind hM
 refine s_call cf43 [Pz aa, I 2, I most] rfl (zcd s_bytes s_used s_mix 2 most (au.app _) av aX _ (St.give (T := []) H rfl)) ?_
 rintro vq aN ⟨r2, q1, q2, aY, hvq, ai⟩
 subst aY
 subst vq
 try dsimp only at hM
 replace H : St w aN [cBlk aa [ah, I q1, I q2] 158] R := H.back ai rfl
 clear ai
 refine sM (I 0) rfl <| s_nil <| W.block ?_
 obtain ⟨aA, H⟩ := H.emptyE
 replace H : St w aN [cOwn (α := Raw 2) 60 (.slice none 0 0) ([]), cRo aA, cBlk aa [ah, I q1, I q2] 158] R := H.nilOwn (α := Raw 2) 60
 have aZ : RepR (α := Work) (n := 2) aA.cells [] [] := .nil
 obtain ⟨a5, aB, a6⟩ := M.e_bind hM
 obtain ⟨a7, aB⟩ := M.e_iter aB
 refine W.loop (fun m σ W => ∃ (s6 : Int) (s7 : Int) (s8 : Nat) (l4 : List Work) (ac : Value) (ae : List (Raw 2)) (B_l4 : Base) (ρ : Env), σ = upds ρ [(0, Pz aa), (5, ac), (11, I r2), (12, I (s8 : Int))] /\ M.iterN (za5 s_bytes r2) m (s6, s7, s8, l4) = some a5 /\ St w W [cOwn (α := Raw 2) 60 ac ae, cRo B_l4, cBlk aa [ah, I s6, I s7] 158] R /\ RepR (α := Work) B_l4.cells ae l4) ?_ ?_
 ·exact ⟨_, q1, q2, 0, [], (.slice none 0 0), [], aA, _, upds_of _ _ ⟨rfl, rfl, rfl, rfl, trivial⟩, aB, H, aZ⟩
 rintro bE σ bF ⟨s6, s7, s8, l4, ac, ae, B_l4, ρ, rfl, aO, H, al⟩
 obtain ⟨a8, a9, bG, hM, aP⟩ := M.e_iterN aO
 simp only [za5] at hM
 clear aO
 refine sQ rfl <| sC (s8 : Int) r2 (decide ((s8 : Int) < r2)) rfl rfl rfl <| s_nil <| W.seq ?_
 refine W.cond (decide ((s8 : Int) < r2)) rfl (fun am => ?_) (fun am => ?_)
 ·replace hM := M.e_t hM am
  simp only [qz1, qz2, qz3, qz4, qz5, qz6, ne_eq, qz7] at am
  refine W.skip <| W.seq <| W.block <| sQ rfl <| sM (I (s8 : Int)) rfl <| sA (I (s8 : Int)) rfl <| s_nil <| sQ rfl <| sM (Pz aa) rfl ?_
  obtain ⟨bH, ba, hM⟩ := M.e_bind hM
  refine s_call cf44 [Pz aa, I 2000] rfl (zag s_bytes s6 s7 2000 (au.app _) av ba _ (St.give (L := [cBlk aa [ah, I s6, I s7] 158, cOwn (α := Raw 2) 60 ac ae, cRo B_l4]) (A := [cBlk aa [ah, I s6, I s7] 158]) (T := [cOwn (α := Raw 2) 60 ac ae, cRo B_l4]) (H.pick [2, 0, 1] (by decide) rfl) rfl)) ?_
  rintro vq bb ⟨r3, aQ, aR, bc, hvq, ai⟩
  subst bc
  subst vq
  try dsimp only at hM
  replace H : St w bb [cBlk aa [ah, I aQ, I aR] 158, cOwn (α := Raw 2) 60 ac ae, cRo B_l4] R := H.pick [2, 0, 1] (by decide) rfl |>.back ai rfl
  clear ai
  refine sM (Pz aa) rfl ?_
  obtain ⟨bI, bf, hM⟩ := M.e_bind hM
  refine s_call cf44 [Pz aa, I 60] rfl (zag s_bytes aQ aR 60 (au.app _) av bf _ (St.give (T := [cOwn (α := Raw 2) 60 ac ae, cRo B_l4]) H rfl)) ?_
  rintro vq bg ⟨r4, aw, ax, bh, hvq, ai⟩
  subst bh
  subst vq
  try dsimp only at hM
  replace H : St w bg [cBlk aa [ah, I aw, I ax] 158, cOwn (α := Raw 2) 60 ac ae, cRo B_l4] R := H.back ai rfl
  clear ai
  refine s_val (x_bld (ps := [(1, I r3), (2, I r4)]) (zs := [.slice none 0 0, I 0, I 0]) (L' := [.slice none 0 0, I r3, I r4]) rfl Try.underlying60 Al60 rfl (Bd60 Try.underlying60) (.cons (cs := [I r3]) rfl rfl rfl rfl rfl <| .cons (cs := [I r4]) rfl rfl rfl rfl rfl <| .nil)) ?_
  refine t_alloc (cs := [.slice none 0 0, I 0, I 0]) H Al60 rfl ?_
  intro ab bJ H
  refine t_st (k := 0) (b := ab) (off := 0) (cs := [.slice none 0 0, I 0, I 0]) (vs := [.slice none 0 0, I r3, I r4]) (cs' := [.slice none 0 0, I r3, I r4]) (v := .agg #[.slice none 0 0, I r3, I r4]) (L' := [cBlk ab [.slice none 0 0, I r3, I r4] 60, cBlk aa [ah, I aw, I ax] 158, cOwn (α := Raw 2) 60 ac ae, cRo B_l4]) H rfl rfl rfl Sz60 rfl rfl rfl rfl rfl rfl ?_
  intro bi H
  refine s_nil <| W.seq <| sQ rfl <| sM (I (s8 : Int)) rfl ?_
  obtain ⟨bK, hM⟩ := M.e_gd hM
  refine sR (s8 : Int) 1 ((s8 : Int) - 1) rfl rfl rfl (by omega) <| sA (I ((s8 : Int) - 1)) rfl <| s_nil <| W.block ?_
  replace H : St w bi [cOwn (α := Int) 3 (.slice none 0 0) ([]), cBlk ab [.slice none 0 0, I r3, I r4] 60, cBlk aa [ah, I aw, I ax] 158, cOwn (α := Raw 2) 60 ac ae, cRo B_l4] R := H.nilOwn (α := Int) 3
  obtain ⟨bj, aC, bk⟩ := M.e_bind hM
  obtain ⟨a7, aC⟩ := M.e_iter aC
  refine W.loop (fun m σ W => ∃ (s2 : Int) (s3 : Int) (k : Int) (l : List Int) (ag : Value) (ρ : Env), σ = upds ρ [(0, Pz aa), (5, ac), (6, I (s8 : Int)), (7, Pz ab), (8, I k), (11, I r2), (12, I (s8 : Int))] /\ M.iterN (zaT s_bytes s8) m (s2, s3, k, l) = some bj /\ St w W [cOwn (α := Int) 3 ag l, cBlk ab [ag, I r3, I r4] 60, cBlk aa [ah, I s2, I s3] 158, cOwn (α := Raw 2) 60 ac ae, cRo B_l4] R) ?_ ?_
  ·exact ⟨_, aw, ax, (s8 : Int) - 1, [], (.slice none 0 0), _, upds_of _ _ ⟨rfl, rfl, rfl, rfl, rfl, rfl, rfl, trivial⟩, aC, H⟩
  rintro bL σ bl ⟨s2, s3, k, l, ag, ρ, rfl, aS, H⟩
  obtain ⟨aT, aU, bM, hM, aD⟩ := M.e_iterN aS
  simp only [zaT] at hM
  clear aS
  refine W.seq <| sQ rfl <| sM (I k) rfl <| sC k 0 (decide (0 <= k)) rfl rfl rfl <| sM (B (decide (0 <= k))) rfl <| g_val (decide (0 <= k)) (gy_t rfl) (fun hg => x_fa (a := Pz ab) (v := Pz ab) rfl (fa_blk (o := 0) Fd60_0 Sz34)) <| g_val (decide (0 <= k)) (gy_t rfl) (fun hg => x_ld (p := Pz ab) (v := ag) (gd_of (c := decide (0 <= k)) hg (Pz ab)) (ldb_sc Sc34 (H.blk (k := 1) rfl) rfl)) <| g_val (decide (0 <= k)) (gy_t rfl) (fun hg => x_lenS T34.und (gd_of (c := decide (0 <= k)) hg (ag)) (ownSl (H.get (k := 0) rfl))) <| g_val (decide (0 <= k)) (gy_t rfl) (fun hg => x_cmp (kd := .i64) (a := (l.length : Int)) (b := 5) (r := decide ((l.length : Int) < 5)) (gd_of (c := decide (0 <= k)) hg (I (l.length : Int))) rfl rfl) <| s_val (x_pand (b := decide (0 <= k)) (r := decide ((l.length : Int) < 5)) rfl (fun hb => gd_of (c := decide (0 <= k)) (by first | exact hb | (rw [hb]; rfl) | simp_all) (B (decide ((l.length : Int) < 5)))) rfl) <| sM (B ((decide (0 <= k)) && (decide ((l.length : Int) < 5)))) rfl ?_
  refine g_val ((decide (0 <= k)) && (decide ((l.length : Int) < 5))) (gy_t rfl) (fun hg => x_mv (v := I (s8 : Int)) rfl) <| g_val ((decide (0 <= k)) && (decide ((l.length : Int) < 5))) (gy_t rfl) (fun hg => x_cmp (kd := .i64) (a := (s8 : Int)) (b := 2) (r := decide (2 < (s8 : Int))) (gd_of (c := ((decide (0 <= k)) && (decide ((l.length : Int) < 5)))) hg (I (s8 : Int))) rfl rfl) <| s_val (x_pand (b := ((decide (0 <= k)) && (decide ((l.length : Int) < 5)))) (r := decide (2 < (s8 : Int))) rfl (fun hb => gd_of (c := ((decide (0 <= k)) && (decide ((l.length : Int) < 5)))) (by first | exact hb | (rw [hb]; rfl) | simp_all) (B (decide (2 < (s8 : Int))))) rfl) <| s_nil ?_
  refine W.cond (((decide (0 <= k)) && (decide ((l.length : Int) < 5))) && (decide (2 < (s8 : Int)))) rfl (fun aE => ?_) (fun aE => ?_)
  ·replace hM := M.e_t hM aE
   refine W.skip <| W.seq <| W.block <| sQ rfl <| sM (Pz aa) rfl ?_
   obtain ⟨bN, bm, hM⟩ := M.e_bind hM
   refine s_call cf44 [Pz aa, I 3] rfl (zag s_bytes s2 s3 3 (au.app _) av bm _ (St.give (L := [cBlk aa [ah, I s2, I s3] 158, cOwn (α := Int) 3 ag l, cBlk ab [ag, I r3, I r4] 60, cOwn (α := Raw 2) 60 ac ae, cRo B_l4]) (A := [cBlk aa [ah, I s2, I s3] 158]) (T := [cOwn (α := Int) 3 ag l, cBlk ab [ag, I r3, I r4] 60, cOwn (α := Raw 2) 60 ac ae, cRo B_l4]) (H.pick [2, 0, 1, 3, 4] (by decide) rfl) rfl)) ?_
   rintro vq bn ⟨r5, ao, ap, bo, hvq, ai⟩
   subst bo
   subst vq
   try dsimp only at hM
   replace H : St w bn [cBlk aa [ah, I ao, I ap] 158, cOwn (α := Int) 3 ag l, cBlk ab [ag, I r3, I r4] 60, cOwn (α := Raw 2) 60 ac ae, cRo B_l4] R := H.pick [2, 0, 1, 3, 4] (by decide) rfl |>.back ai rfl
   clear ai
   refine sC r5 0 (r5 == 0) rfl rfl rfl <| s_nil ?_
   refine W.cond (r5 == 0) rfl (fun aq => ?_) (fun aq => ?_)
   ·replace hM := M.e_t hM aq
    simp only [qz1, qz2, qz3, qz4, qz5, qz6, ne_eq, qz7] at aq
    refine W.region rfl <| s_val (x_fa (a := Pz ab) (v := Pz ab) rfl (fa_blk (o := 0) Fd60_0 Sz34)) <| s_val (x_ld (p := Pz ab) (v := ag) rfl (ldb_sc Sc34 (H.blk (k := 2) rfl) rfl)) <| sM (I k) rfl ?_
    refine t_bs (α := Int) T34 [I k] [(k : Int)] H rfl (.cons rfl (Flat.rep_enc _ (k : Int)) <| .nil) rfl rfl rfl ?_
    intro aF bO H
    obtain ⟨bP, hM⟩ := M.e_gd hM
    refine t_app (α := Int) (k := 2) (l := l) (l2 := [(k : Int)]) (l' := l ++ ([(k : Int)])) (vy := aF) T34 rfl H rfl rfl rfl (ownSl (H.get (k := 0) rfl)) (ownLe _ (H.get (k := 0) rfl)) (rfl) (by first | omega | (simp only [List.length_nil] at *; omega)) ?_
    intro ak bp H
    replace H : St w bp [cOwn (α := Int) 3 aF ([(k : Int)]), cBlk aa [ah, I ao, I ap] 158, cOwn (α := Int) 3 ak (l ++ ([(k : Int)])), cBlk ab [ag, I r3, I r4] 60, cOwn (α := Raw 2) 60 ac ae, cRo B_l4] R := H
    refine s_val (x_fa (a := Pz ab) (v := Pz ab) rfl (fa_blk (o := 0) Fd60_0 Sz34)) ?_
    refine t_st (k := 3) (b := ab) (off := 0) (cs := [ag, I r3, I r4]) (vs := [ak]) (cs' := [ak, I r3, I r4]) (v := ak) (L' := [cOwn (α := Int) 3 aF ([(k : Int)]), cBlk aa [ah, I ao, I ap] 158, cOwn (α := Int) 3 ak (l ++ ([(k : Int)])), cBlk ab [ak, I r3, I r4] 60, cOwn (α := Raw 2) 60 ac ae, cRo B_l4]) H rfl rfl rfl Sz34 (Sl.cells (ownSl (H.get (k := 2) rfl))) rfl rfl (by simp only [List.all_cons, List.all_nil, Bool.true_and, Bool.and_true, Sl.oc (ownSl (H.get (k := 2) rfl))]; try rfl) rfl rfl ?_
    intro bQ H
    refine s_nil <| W.region rfl <| sM (I k) rfl ?_
    obtain ⟨bR, hM⟩ := M.e_gd hM
    refine sR k 1 (k - 1) rfl rfl rfl (by omega) <| sA (I (k - 1)) rfl <| s_nil ?_
    exact ⟨aT, aU, ao, ap, k - 1, l ++ ([(k : Int)]), ak, _, upds_of _ _ ⟨rfl, rfl, rfl, rfl, rfl, rfl, rfl, trivial⟩, M.e_inl hM aD, (H.pick [2, 3, 1, 4, 5] (by decide) rfl)⟩
   replace hM := M.e_f hM aq
   simp only [qz1, qz2, qz3, qz4, qz5, qz6, ne_eq, qz7] at aq
   refine W.skip <| W.region rfl <| sM (I k) rfl ?_
   obtain ⟨bS, hM⟩ := M.e_gd hM
   refine sR k 1 (k - 1) rfl rfl rfl (by omega) <| sA (I (k - 1)) rfl <| s_nil ?_
   exact ⟨aT, aU, ao, ap, k - 1, l, ag, _, upds_of _ _ ⟨rfl, rfl, rfl, rfl, rfl, rfl, rfl, trivial⟩, M.e_inl hM aD, (H.pick [1, 2, 0, 3, 4] (by decide) rfl)⟩
  replace hM := M.e_f hM aE
  refine W.exit ?_
  have bq := M.e_inr hM aD
  subst bq
  replace hM := bk
  try dsimp only at hM
  refine W.region rfl <| sM ac rfl <| s_val (x_ld (p := Pz ab) (v := .agg #[ag, I r3, I r4]) rfl (ldb_ag (ds := [ag, I r3, I r4]) Ag60 Sz60 (H.blk (k := 1) rfl) rfl rfl)) ?_
  obtain ⟨aG, H⟩ := H.emptyE
  obtain ⟨aH, H, br⟩ := H.freezeE (k := 1) rfl
  replace H : St w bl [cRo aG, cRo aH, cBlk ab [ag, I r3, I r4] 60, cBlk aa [ah, I s2, I s3] 158, cOwn (α := Raw 2) 60 ac ae, cRo B_l4] R := H
  have ay := br
  obtain ⟨aI, H, bT, bt⟩ := H.joinE (i := 0) (j := 1) rfl rfl
  replace ay := ay.mono bt
  obtain ⟨aj, aV⟩ : ∃ r : Raw 2, r.cs = [ag, I r3, I r4] := ⟨Raw.of [ag, I r3, I r4] rfl (by simp only [List.all_cons, List.all_nil, Bool.true_and, Bool.and_true, Sl.oc ay]; try rfl), rfl⟩
  have bu : RepR (α := Work) aI.cells [aj] [(⟨l, (r3 : Int), (r4 : Int)⟩ : Work)] := .cons (by rw [aV]; exact ⟨_, rfl, ay⟩) <| .nil
  refine t_bs (α := Raw 2) T22 [.agg #[ag, I r3, I r4]] [aj] H rfl (.cons (by rw [show (Flat.enc aj : List Value) = aj.cs from rfl, aV]; rfl) (Flat.rep_enc _ _) <| .nil) rfl rfl rfl ?_
  intro aJ bv H
  replace H : St w bv [cOwn (α := Raw 2) 60 aJ ([aj]), cRo aI, cRo aG, cRo aH, cBlk ab [ag, I r3, I r4] 60, cBlk aa [ah, I s2, I s3] 158, cOwn (α := Raw 2) 60 ac ae, cRo B_l4] R := H
  obtain ⟨bU, hM⟩ := M.e_gd hM
  have az := bu
  obtain ⟨aW, H, bw, bx⟩ := H.joinE (i := 7) (j := 1) rfl rfl
  replace al := al.mono bw
  replace az := az.mono bx
  have bz := al.app az
  refine t_app (α := Raw 2) (k := 7) (l := ae) (l2 := [aj]) (l' := ae ++ ([aj])) (vy := aJ) T22 rfl H rfl rfl rfl (ownSl (H.get (k := 1) rfl)) (ownLe _ (H.get (k := 1) rfl)) (rfl) (by have a_ := al.len; have b_ := az.len; simp only [List.length_nil] at *; first | omega | (rw [a_, b_]; omega)) ?_
  intro aK bA H
  replace H : St w bA [cRo aW, cOwn (α := Raw 2) 60 aJ ([aj]), cRo aI, cRo aG, cRo aH, cBlk ab [ag, I r3, I r4] 60, cBlk aa [ah, I s2, I s3] 158, cOwn (α := Raw 2) 60 aK (ae ++ ([aj])), cRo B_l4] R := H
  refine sA aK rfl <| s_nil <| W.region rfl ?_
  obtain ⟨bV, hM⟩ := M.e_gd hM
  refine sR (s8 : Int) 1 ((s8 : Int) + 1) rfl rfl rfl (by omega) <| sM (I ((s8 : Int) + 1)) rfl <| s_nil ?_
  exact ⟨a8, a9, s2, s3, s8 + 1, l4 ++ ([(⟨l, (r3 : Int), (r4 : Int)⟩ : Work)]), aK, ae ++ ([aj]), aW, _, upds_of _ _ ⟨rfl, rfl, rfl, rfl, trivial⟩, M.e_inl hM aP, (H.pick [7, 0, 6] (by decide) rfl), bz⟩
 replace hM := M.e_f hM am
 simp only [qz1, qz2, qz3, qz4, qz5, qz6, ne_eq, qz7] at am
 refine W.exit ?_
 have bB := M.e_inr hM aP
 subst bB
 replace hM := a6
 try dsimp only at hM
 refine sQ rfl <| sM ac rfl <| sA ac rfl <| s_nil ?_
 refine W.ret ?_
 have bC := M.e_pure hM
 exact ⟨_, resE_tmp rfl, ⟨l4, s6, s7, ac, ae, B_l4, bC, rfl, H, al⟩⟩

def zaO (s_bytes : List UInt8) (s7 : Nat) (r2 : Int) : (Int × Int × Nat × (List Note)) -> M ((Int × Int × Nat × (List Note)) ⊕ (Int × Int × (List Note) × (List Note))) := fun (s2, s3, s4, l4) =>
  bif decide ((s4 : Int) < r2) then (
  M.bind (zaa s_bytes s2 s3 3) fun (r4, aa, ab) =>
  bif r4 == 0 then (
  M.bind (zaa s_bytes aa ab 2000) fun (r5, ac, ae) =>
  M.grd (decide ((l4.length + ([(⟨(s7 : Int), (s4 : Int), (r5 : Int)⟩ : Note)]).length) * 24 <= 140737488355328)) <|
  M.grd (decide ((-9223372036854775808 : Int) <= ((s4 : Int) + 1)) && decide (((s4 : Int) + 1) <= (9223372036854775807 : Int))) <|
  M.pure (.inl (ac, ae, s4 + 1, l4 ++ ([(⟨(s7 : Int), (s4 : Int), (r5 : Int)⟩ : Note)]))))
  else (
  M.grd (decide ((-9223372036854775808 : Int) <= ((s4 : Int) + 1)) && decide (((s4 : Int) + 1) <= (9223372036854775807 : Int))) <|
  M.pure (.inl (aa, ab, s4 + 1, l4))))
  else (
  M.pure (.inr (s2, s3, l4, l4)))
def za4 (s_bytes : List UInt8) (w_ : List Work) : (Nat × Int × Int × (List Note) × (List Note)) -> M ((Nat × Int × Int × (List Note) × (List Note)) ⊕ ((List Note) × (List Note) × (List Note) × (List Note) × Int × Int)) := fun (s7, s8, s9, l6, l7) =>
  bif decide ((s7 : Int) < (w_.length : Int)) then (
  M.grd (decide ((s7 : Int) < (w_.length : Int))) <|
  bif decide (0 < (((w_.getD s7 default).of).length : Int)) then (
  M.pure (.inl (s7 + 1, s8, s9, l6, l7)))
  else (
  M.bind (zaa s_bytes s8 s9 9) fun (r2, q1, q2) =>
  M.bind (zaa s_bytes q1 q2 2000) fun (r3, aa, ab) =>
  M.grd (decide ((l6.length + ([(⟨(s7 : Int), (r2 : Int), (r3 : Int)⟩ : Note)]).length) * 24 <= 140737488355328)) <|
  M.bind (M.iter (zaO s_bytes s7 r2) (aa, ab, 0, l7)) fun (s5, s6, l2, l5) =>
  M.pure (.inl (s7 + 1, s5, s6, l6 ++ ([(⟨(s7 : Int), (r2 : Int), (r3 : Int)⟩ : Note)]), l5))))
  else (
  M.pure (.inr (l6, l7, l7, l6, s8, s9)))
def za7 (s_bytes : List UInt8) (s_used : Int) (s_mix : Int) (w_ : List Work) : M ((List Note) × Int × Int) :=
  M.bind (M.iter (za4 s_bytes w_) (0, s_used, s_mix, [], [])) fun (l8, l9, aa, ab, ac, ae) =>
  M.grd (decide ((ab.length + aa.length) * 24 <= 140737488355328)) <|
  M.pure ((ab ++ aa), ac, ae)
theorem zb6 {R : List Chunk} {aa : Nat} {aM : Cells} {ac : Value} {aN : Cells} {ao : Value} (s_bytes : List UInt8) (s_used : Int) (s_mix : Int) (w_ : List Work) (ax : Reads R aM) (ay : Sl aM ac s_bytes) (aV : Reads R aN) (az : Sl aN ao w_) {r : ((List Note) × Int × Int)} (hM : (za7 s_bytes s_used s_mix w_).Ends r) (w : World) (H : St w w [cBlk aa [ac, I s_used, I s_mix] 158] R) : Ret Try.prog 42 #[Pz aa, ao] w fun v w' => ∃ (y0 : List Note) (y1 : Int) (y2 : Int) (u0 : Value), (y0, y1, y2) = r /\ v = u0 /\ St w w' [cOwn (α := Note) 30 u0 y0, cBlk aa [ac, I y1, I y2] 158] R := by
 refine ret_of_W Try.func42 rfl rfl rfl ?_
 refine sQ rfl <| sA (.slice none 0 0) rfl <| s_nil <| sQ rfl <| sA (.slice none 0 0) rfl <| sA (.slice none 0 0) rfl <| s_nil <| W.seq <| sQ rfl ?_
 refine sM ao rfl ?_
 have br := (az).len_le
 refine s_val (x_lenS T22.und rfl az) <| sM (I 0) rfl <| s_nil <| W.block ?_
 replace H : St w w [cOwn (α := Note) 30 (.slice none 0 0) ([]), cBlk aa [ac, I s_used, I s_mix] 158] R := H.nilOwn (α := Note) 30
 replace H : St w w [cOwn (α := Note) 30 (.slice none 0 0) ([]), cOwn (α := Note) 30 (.slice none 0 0) ([]), cBlk aa [ac, I s_used, I s_mix] 158] R := H.nilOwn (α := Note) 30
 obtain ⟨aW, aC, aX⟩ := M.e_bind hM
 obtain ⟨aY, aC⟩ := M.e_iter aC
 refine W.loop (fun m σ W => ∃ (s7 : Nat) (s8 : Int) (s9 : Int) (l6 : List Note) (l7 : List Note) (ai : Value) (ag : Value) (ρ : Env), σ = upds ρ [(0, Pz aa), (5, ai), (6, ag), (11, ao), (12, I (w_.length : Int)), (13, I (s7 : Int))] /\ M.iterN (za4 s_bytes w_) m (s7, s8, s9, l6, l7) = some aW /\ St w W [cOwn (α := Note) 30 ag l7, cOwn (α := Note) 30 ai l6, cBlk aa [ac, I s8, I s9] 158] R) ?_ ?_
 ·exact ⟨_, 0, s_used, s_mix, [], [], (.slice none 0 0), (.slice none 0 0), _, upds_of _ _ ⟨rfl, rfl, rfl, rfl, rfl, rfl, trivial⟩, aC, H⟩
 rintro bt σ bu ⟨s7, s8, s9, l6, l7, ai, ag, ρ, rfl, aO, H⟩
 obtain ⟨aP, aQ, bv, hM, aD⟩ := M.e_iterN aO
 simp only [za4] at hM
 clear aO
 refine sQ rfl <| sC (s7 : Int) (w_.length : Int) (decide ((s7 : Int) < (w_.length : Int))) rfl rfl rfl <| s_nil <| W.seq ?_
 refine W.cond (decide ((s7 : Int) < (w_.length : Int))) rfl (fun aq => ?_) (fun aq => ?_)
 ·replace hM := M.e_t hM aq
  simp only [qz1, qz2, qz3, qz4, qz5, qz6, ne_eq, qz7] at aq
  refine W.skip <| W.seq <| W.block <| sQ rfl <| sM (I (s7 : Int)) rfl ?_
  obtain ⟨bw, hM⟩ := M.e_gd hM
  refine s_val (x_ix (a := ao) (b := I (s7 : Int)) (v := vat ao 3 (Int.toNat (s7 : Int))) rfl rfl (Sl.ix (α := Work) T22.und T22.size az (by omega) (by omega))) ?_
  obtain ⟨ab, aZ, ap⟩ := Work_atA az (i := (s7 : Int)) (by omega) (by omega)
  replace ap : Sl _ ab (w_.getD s7 default).of := ap
  have bx := ap.len_le
  refine s_val (x_ld (p := vat ao 3 (Int.toNat (s7 : Int))) (v := .agg #[ab, I ((w_.getD s7 default).base), I ((w_.getD s7 default).minutes)]) rfl (ld_ag Ag60 Sz60 (At.mono aZ (aV.at H)))) ?_
  refine t_alloc (cs := [.slice none 0 0, I 0, I 0]) H Al60 rfl ?_
  intro ae bz H
  refine sA (I (s7 : Int)) rfl ?_
  refine t_st (k := 0) (b := ae) (off := 0) (cs := [.slice none 0 0, I 0, I 0]) (vs := [ab, I ((w_.getD s7 default).base), I ((w_.getD s7 default).minutes)]) (cs' := [ab, I ((w_.getD s7 default).base), I ((w_.getD s7 default).minutes)]) (v := .agg #[ab, I ((w_.getD s7 default).base), I ((w_.getD s7 default).minutes)]) (L' := [cBlk ae [ab, I ((w_.getD s7 default).base), I ((w_.getD s7 default).minutes)] 60, cOwn (α := Note) 30 ag l7, cOwn (α := Note) 30 ai l6, cBlk aa [ac, I s8, I s9] 158]) H rfl rfl rfl Sz60 rfl rfl rfl (by simp only [List.all_cons, List.all_nil, Bool.true_and, Bool.and_true, Sl.oc ap]; try rfl) rfl rfl ?_
  intro bA H
  refine s_nil <| W.seq <| sQ rfl <| s_val (x_fa (a := Pz ae) (v := Pz ae) rfl (fa_blk (o := 0) Fd60_0 Sz34)) <| s_val (x_ld (p := Pz ae) (v := ab) rfl (ldb_sc Sc34 (H.blk (k := 0) rfl) rfl)) ?_
  have bB := (ap).len_le
  refine s_val (x_lenS T34.und rfl ap) <| sC (((w_.getD s7 default).of).length : Int) 0 (decide (0 < (((w_.getD s7 default).of).length : Int))) rfl rfl rfl <| s_nil ?_
  refine W.cond (decide (0 < (((w_.getD s7 default).of).length : Int))) rfl (fun au => ?_) (fun au => ?_)
  ·replace hM := M.e_t hM au
   simp only [qz1, qz2, qz3, qz4, qz5, qz6, ne_eq, qz7] at au
   refine W.exit ?_
   refine W.region rfl <| sR (s7 : Int) 1 ((s7 : Int) + 1) rfl rfl rfl (by omega) <| sM (I ((s7 : Int) + 1)) rfl <| s_nil ?_
   exact ⟨aP, aQ, s7 + 1, s8, s9, l6, l7, ai, ag, _, upds_of _ _ ⟨rfl, rfl, rfl, rfl, rfl, rfl, trivial⟩, M.e_inl hM aD, (H.pick [1, 2, 3] (by decide) rfl)⟩
  replace hM := M.e_f hM au
  simp only [qz1, qz2, qz3, qz4, qz5, qz6, ne_eq, qz7] at au
  refine W.skip <| sQ rfl <| sM (I (s7 : Int)) rfl <| sM (Pz aa) rfl ?_
  obtain ⟨bC, a5, hM⟩ := M.e_bind hM
  refine s_call cf44 [Pz aa, I 9] rfl (zag s_bytes s8 s9 9 (ax.app _) ay a5 _ (St.give (L := [cBlk aa [ac, I s8, I s9] 158, cBlk ae [ab, I ((w_.getD s7 default).base), I ((w_.getD s7 default).minutes)] 60, cOwn (α := Note) 30 ag l7, cOwn (α := Note) 30 ai l6]) (A := [cBlk aa [ac, I s8, I s9] 158]) (T := [cBlk ae [ab, I ((w_.getD s7 default).base), I ((w_.getD s7 default).minutes)] 60, cOwn (α := Note) 30 ag l7, cOwn (α := Note) 30 ai l6]) (H.pick [3, 0, 1, 2] (by decide) rfl) rfl)) ?_
  rintro vq a6 ⟨r2, q1, q2, a7, hvq, aj⟩
  subst a7
  subst vq
  try dsimp only at hM
  replace H : St w a6 [cBlk aa [ac, I q1, I q2] 158, cBlk ae [ab, I ((w_.getD s7 default).base), I ((w_.getD s7 default).minutes)] 60, cOwn (α := Note) 30 ag l7, cOwn (α := Note) 30 ai l6] R := H.pick [3, 0, 1, 2] (by decide) rfl |>.back aj rfl
  clear aj
  refine sM (Pz aa) rfl ?_
  obtain ⟨bD, a8, hM⟩ := M.e_bind hM
  refine s_call cf44 [Pz aa, I 2000] rfl (zag s_bytes q1 q2 2000 (ax.app _) ay a8 _ (St.give (T := [cBlk ae [ab, I ((w_.getD s7 default).base), I ((w_.getD s7 default).minutes)] 60, cOwn (α := Note) 30 ag l7, cOwn (α := Note) 30 ai l6]) H rfl)) ?_
  rintro vq a9 ⟨r3, aA, aB, ba, hvq, aj⟩
  subst ba
  subst vq
  try dsimp only at hM
  replace H : St w a9 [cBlk aa [ac, I aA, I aB] 158, cBlk ae [ab, I ((w_.getD s7 default).base), I ((w_.getD s7 default).minutes)] 60, cOwn (α := Note) 30 ag l7, cOwn (α := Note) 30 ai l6] R := H.back aj rfl
  clear aj
  refine s_val (x_bld (ps := [(0, I (s7 : Int)), (1, I r2), (2, I r3)]) (zs := [I 0, I 0, I 0]) (L' := [I (s7 : Int), I r2, I r3]) rfl Try.underlying30 Al30 rfl (Bd30 Try.underlying30) (.cons (cs := [I (s7 : Int)]) rfl rfl rfl rfl rfl <| .cons (cs := [I r2]) rfl rfl rfl rfl rfl <| .cons (cs := [I r3]) rfl rfl rfl rfl rfl <| .nil)) ?_
  refine t_alloc (cs := [I 0, I 0, I 0]) H Al30 rfl ?_
  intro ah bE H
  refine t_st (k := 0) (b := ah) (off := 0) (cs := [I 0, I 0, I 0]) (vs := [I (s7 : Int), I r2, I r3]) (cs' := [I (s7 : Int), I r2, I r3]) (v := .agg #[I (s7 : Int), I r2, I r3]) (L' := [cBlk ah [I (s7 : Int), I r2, I r3] 30, cBlk aa [ac, I aA, I aB] 158, cBlk ae [ab, I ((w_.getD s7 default).base), I ((w_.getD s7 default).minutes)] 60, cOwn (α := Note) 30 ag l7, cOwn (α := Note) 30 ai l6]) H rfl rfl rfl Sz30 rfl rfl rfl rfl rfl rfl ?_
  intro bF H
  refine s_nil <| sQ rfl <| sM ai rfl <| s_val (x_ld (p := Pz ah) (v := .agg #[I (s7 : Int), I r2, I r3]) rfl (ldb_ag (ds := [I (s7 : Int), I r2, I r3]) Ag30 Sz30 (H.blk (k := 0) rfl) rfl rfl)) ?_
  refine t_bs (α := Note) T23 [.agg #[I (s7 : Int), I r2, I r3]] [(⟨(s7 : Int), (r2 : Int), (r3 : Int)⟩ : Note)] H rfl (.cons rfl (Flat.rep_enc _ (⟨(s7 : Int), (r2 : Int), (r3 : Int)⟩ : Note)) <| .nil) rfl rfl rfl ?_
  intro am bG H
  obtain ⟨bH, hM⟩ := M.e_gd hM
  refine t_app (α := Note) (k := 5) (l := l6) (l2 := [(⟨(s7 : Int), (r2 : Int), (r3 : Int)⟩ : Note)]) (l' := l6 ++ ([(⟨(s7 : Int), (r2 : Int), (r3 : Int)⟩ : Note)])) (vy := am) T23 rfl H rfl rfl rfl (ownSl (H.get (k := 0) rfl)) (ownLe _ (H.get (k := 0) rfl)) (rfl) (by first | omega | (simp only [List.length_nil] at *; omega)) ?_
  intro ak bb H
  replace H : St w bb [cOwn (α := Note) 30 am ([(⟨(s7 : Int), (r2 : Int), (r3 : Int)⟩ : Note)]), cBlk ah [I (s7 : Int), I r2, I r3] 30, cBlk aa [ac, I aA, I aB] 158, cBlk ae [ab, I ((w_.getD s7 default).base), I ((w_.getD s7 default).minutes)] 60, cOwn (α := Note) 30 ag l7, cOwn (α := Note) 30 ak (l6 ++ ([(⟨(s7 : Int), (r2 : Int), (r3 : Int)⟩ : Note)]))] R := H
  refine sA ak rfl <| s_nil <| sQ rfl <| s_val (x_fa (a := Pz ah) (v := Oz ah 1) rfl (fa_blk (o := 0) Fd30_1 Sz3)) <| s_val (x_ld (p := Oz ah 1) (v := I r2) rfl (ldb_sc Sc3 (H.blk (k := 1) rfl) rfl)) <| sM (I 0) rfl <| s_nil <| W.block ?_
  obtain ⟨bc, aE, bf⟩ := M.e_bind hM
  obtain ⟨aY, aE⟩ := M.e_iter aE
  refine W.loop (fun m σ W => ∃ (s2 : Int) (s3 : Int) (s4 : Nat) (l4 : List Note) (al : Value) (ρ : Env), σ = upds ρ [(0, Pz aa), (5, ak), (6, al), (7, I (s7 : Int)), (11, ao), (12, I (w_.length : Int)), (13, I (s7 : Int)), (33, I r2), (34, I (s4 : Int))] /\ M.iterN (zaO s_bytes s7 r2) m (s2, s3, s4, l4) = some bc /\ St w W [cOwn (α := Note) 30 am ([(⟨(s7 : Int), (r2 : Int), (r3 : Int)⟩ : Note)]), cBlk ah [I (s7 : Int), I r2, I r3] 30, cBlk aa [ac, I s2, I s3] 158, cBlk ae [ab, I ((w_.getD s7 default).base), I ((w_.getD s7 default).minutes)] 60, cOwn (α := Note) 30 al l4, cOwn (α := Note) 30 ak (l6 ++ ([(⟨(s7 : Int), (r2 : Int), (r3 : Int)⟩ : Note)]))] R) ?_ ?_
  ·exact ⟨_, aA, aB, 0, l7, ag, _, upds_of _ _ ⟨rfl, rfl, rfl, rfl, rfl, rfl, rfl, rfl, rfl, trivial⟩, aE, H⟩
  rintro bI σ bJ ⟨s2, s3, s4, l4, al, ρ, rfl, aR, H⟩
  obtain ⟨aS, aT, bK, hM, aF⟩ := M.e_iterN aR
  simp only [zaO] at hM
  clear aR
  refine sQ rfl <| sC (s4 : Int) r2 (decide ((s4 : Int) < r2)) rfl rfl rfl <| s_nil <| W.seq ?_
  refine W.cond (decide ((s4 : Int) < r2)) rfl (fun av => ?_) (fun av => ?_)
  ·replace hM := M.e_t hM av
   simp only [qz1, qz2, qz3, qz4, qz5, qz6, ne_eq, qz7] at av
   refine W.skip <| W.seq <| W.block <| sQ rfl <| sM (I (s4 : Int)) rfl <| sA (I (s4 : Int)) rfl <| s_nil <| sQ rfl <| sM (Pz aa) rfl ?_
   obtain ⟨bL, bg, hM⟩ := M.e_bind hM
   refine s_call cf44 [Pz aa, I 3] rfl (zag s_bytes s2 s3 3 (ax.app _) ay bg _ (St.give (L := [cBlk aa [ac, I s2, I s3] 158, cOwn (α := Note) 30 am ([(⟨(s7 : Int), (r2 : Int), (r3 : Int)⟩ : Note)]), cBlk ah [I (s7 : Int), I r2, I r3] 30, cBlk ae [ab, I ((w_.getD s7 default).base), I ((w_.getD s7 default).minutes)] 60, cOwn (α := Note) 30 al l4, cOwn (α := Note) 30 ak (l6 ++ ([(⟨(s7 : Int), (r2 : Int), (r3 : Int)⟩ : Note)]))]) (A := [cBlk aa [ac, I s2, I s3] 158]) (T := [cOwn (α := Note) 30 am ([(⟨(s7 : Int), (r2 : Int), (r3 : Int)⟩ : Note)]), cBlk ah [I (s7 : Int), I r2, I r3] 30, cBlk ae [ab, I ((w_.getD s7 default).base), I ((w_.getD s7 default).minutes)] 60, cOwn (α := Note) 30 al l4, cOwn (α := Note) 30 ak (l6 ++ ([(⟨(s7 : Int), (r2 : Int), (r3 : Int)⟩ : Note)]))]) (H.pick [2, 0, 1, 3, 4, 5] (by decide) rfl) rfl)) ?_
   rintro vq bh ⟨r4, aG, aH, bi, hvq, aj⟩
   subst bi
   subst vq
   try dsimp only at hM
   replace H : St w bh [cBlk aa [ac, I aG, I aH] 158, cOwn (α := Note) 30 am ([(⟨(s7 : Int), (r2 : Int), (r3 : Int)⟩ : Note)]), cBlk ah [I (s7 : Int), I r2, I r3] 30, cBlk ae [ab, I ((w_.getD s7 default).base), I ((w_.getD s7 default).minutes)] 60, cOwn (α := Note) 30 al l4, cOwn (α := Note) 30 ak (l6 ++ ([(⟨(s7 : Int), (r2 : Int), (r3 : Int)⟩ : Note)]))] R := H.pick [2, 0, 1, 3, 4, 5] (by decide) rfl |>.back aj rfl
   clear aj
   refine sC r4 0 (r4 == 0) rfl rfl rfl <| s_nil ?_
   refine W.cond (r4 == 0) rfl (fun aw => ?_) (fun aw => ?_)
   ·replace hM := M.e_t hM aw
    simp only [qz1, qz2, qz3, qz4, qz5, qz6, ne_eq, qz7] at aw
    refine W.region rfl <| sM al rfl <| sM (I (s7 : Int)) rfl <| sM (I (s4 : Int)) rfl <| sM (Pz aa) rfl ?_
    obtain ⟨bM, bj, hM⟩ := M.e_bind hM
    refine s_call cf44 [Pz aa, I 2000] rfl (zag s_bytes aG aH 2000 (ax.app _) ay bj _ (St.give (T := [cOwn (α := Note) 30 am ([(⟨(s7 : Int), (r2 : Int), (r3 : Int)⟩ : Note)]), cBlk ah [I (s7 : Int), I r2, I r3] 30, cBlk ae [ab, I ((w_.getD s7 default).base), I ((w_.getD s7 default).minutes)] 60, cOwn (α := Note) 30 al l4, cOwn (α := Note) 30 ak (l6 ++ ([(⟨(s7 : Int), (r2 : Int), (r3 : Int)⟩ : Note)]))]) H rfl)) ?_
    rintro vq bk ⟨r5, aI, aJ, bl, hvq, aj⟩
    subst bl
    subst vq
    try dsimp only at hM
    replace H : St w bk [cBlk aa [ac, I aI, I aJ] 158, cOwn (α := Note) 30 am ([(⟨(s7 : Int), (r2 : Int), (r3 : Int)⟩ : Note)]), cBlk ah [I (s7 : Int), I r2, I r3] 30, cBlk ae [ab, I ((w_.getD s7 default).base), I ((w_.getD s7 default).minutes)] 60, cOwn (α := Note) 30 al l4, cOwn (α := Note) 30 ak (l6 ++ ([(⟨(s7 : Int), (r2 : Int), (r3 : Int)⟩ : Note)]))] R := H.back aj rfl
    clear aj
    refine s_val (x_bld (ps := [(0, I (s7 : Int)), (1, I (s4 : Int)), (2, I r5)]) (zs := [I 0, I 0, I 0]) (L' := [I (s7 : Int), I (s4 : Int), I r5]) rfl Try.underlying30 Al30 rfl (Bd30 Try.underlying30) (.cons (cs := [I (s7 : Int)]) rfl rfl rfl rfl rfl <| .cons (cs := [I (s4 : Int)]) rfl rfl rfl rfl rfl <| .cons (cs := [I r5]) rfl rfl rfl rfl rfl <| .nil)) ?_
    refine t_bs (α := Note) T23 [.agg #[I (s7 : Int), I (s4 : Int), I r5]] [(⟨(s7 : Int), (s4 : Int), (r5 : Int)⟩ : Note)] H rfl (.cons rfl (Flat.rep_enc _ (⟨(s7 : Int), (s4 : Int), (r5 : Int)⟩ : Note)) <| .nil) rfl rfl rfl ?_
    intro aU bN H
    obtain ⟨bO, hM⟩ := M.e_gd hM
    refine t_app (α := Note) (k := 5) (l := l4) (l2 := [(⟨(s7 : Int), (s4 : Int), (r5 : Int)⟩ : Note)]) (l' := l4 ++ ([(⟨(s7 : Int), (s4 : Int), (r5 : Int)⟩ : Note)])) (vy := aU) T23 rfl H rfl rfl rfl (ownSl (H.get (k := 0) rfl)) (ownLe _ (H.get (k := 0) rfl)) (rfl) (by first | omega | (simp only [List.length_nil] at *; omega)) ?_
    intro aK bm H
    replace H : St w bm [cOwn (α := Note) 30 aU ([(⟨(s7 : Int), (s4 : Int), (r5 : Int)⟩ : Note)]), cBlk aa [ac, I aI, I aJ] 158, cOwn (α := Note) 30 am ([(⟨(s7 : Int), (r2 : Int), (r3 : Int)⟩ : Note)]), cBlk ah [I (s7 : Int), I r2, I r3] 30, cBlk ae [ab, I ((w_.getD s7 default).base), I ((w_.getD s7 default).minutes)] 60, cOwn (α := Note) 30 aK (l4 ++ ([(⟨(s7 : Int), (s4 : Int), (r5 : Int)⟩ : Note)])), cOwn (α := Note) 30 ak (l6 ++ ([(⟨(s7 : Int), (r2 : Int), (r3 : Int)⟩ : Note)]))] R := H
    refine sA aK rfl <| s_nil <| W.region rfl ?_
    obtain ⟨bP, hM⟩ := M.e_gd hM
    refine sR (s4 : Int) 1 ((s4 : Int) + 1) rfl rfl rfl (by omega) <| sM (I ((s4 : Int) + 1)) rfl <| s_nil ?_
    exact ⟨aS, aT, aI, aJ, s4 + 1, l4 ++ ([(⟨(s7 : Int), (s4 : Int), (r5 : Int)⟩ : Note)]), aK, _, upds_of _ _ ⟨rfl, rfl, rfl, rfl, rfl, rfl, rfl, rfl, rfl, trivial⟩, M.e_inl hM aF, (H.pick [2, 3, 1, 4, 5, 6] (by decide) rfl)⟩
   replace hM := M.e_f hM aw
   simp only [qz1, qz2, qz3, qz4, qz5, qz6, ne_eq, qz7] at aw
   refine W.skip <| W.region rfl ?_
   obtain ⟨bQ, hM⟩ := M.e_gd hM
   refine sR (s4 : Int) 1 ((s4 : Int) + 1) rfl rfl rfl (by omega) <| sM (I ((s4 : Int) + 1)) rfl <| s_nil ?_
   exact ⟨aS, aT, aG, aH, s4 + 1, l4, al, _, upds_of _ _ ⟨rfl, rfl, rfl, rfl, rfl, rfl, rfl, rfl, rfl, trivial⟩, M.e_inl hM aF, (H.pick [1, 2, 0, 3, 4, 5] (by decide) rfl)⟩
  replace hM := M.e_f hM av
  simp only [qz1, qz2, qz3, qz4, qz5, qz6, ne_eq, qz7] at av
  refine W.exit ?_
  have bn := M.e_inr hM aF
  subst bn
  replace hM := bf
  try dsimp only at hM
  refine W.region rfl <| sR (s7 : Int) 1 ((s7 : Int) + 1) rfl rfl rfl (by omega) <| sM (I ((s7 : Int) + 1)) rfl <| s_nil ?_
  exact ⟨aP, aQ, s7 + 1, s2, s3, l6 ++ ([(⟨(s7 : Int), (r2 : Int), (r3 : Int)⟩ : Note)]), l4, ak, al, _, upds_of _ _ ⟨rfl, rfl, rfl, rfl, rfl, rfl, trivial⟩, M.e_inl hM aD, (H.pick [4, 5, 2] (by decide) rfl)⟩
 replace hM := M.e_f hM aq
 simp only [qz1, qz2, qz3, qz4, qz5, qz6, ne_eq, qz7] at aq
 refine W.exit ?_
 have bo := M.e_inr hM aD
 subst bo
 replace hM := aX
 try dsimp only at hM
 refine sQ rfl <| sM ai rfl <| sM ag rfl ?_
 obtain ⟨bR, hM⟩ := M.e_gd hM
 refine t_app (α := Note) (k := 1) (l := l6) (l2 := l7) (l' := l6 ++ l7) (vy := ag) T23 rfl H rfl rfl rfl (ownSl (H.get (k := 0) rfl)) (ownLe _ (H.get (k := 0) rfl)) (rfl) (by first | omega | (simp only [List.length_nil] at *; omega)) ?_
 intro aL bp H
 replace H : St w bp [cOwn (α := Note) 30 ag l7, cOwn (α := Note) 30 aL (l6 ++ l7), cBlk aa [ac, I s8, I s9] 158] R := H
 refine sA aL rfl <| s_nil ?_
 refine W.ret ?_
 have bq := M.e_pure hM
 exact ⟨_, resE_tmp rfl, ⟨(l6 ++ l7), s8, s9, aL, bq, rfl, (H.pick [1, 2] (by decide) rfl)⟩⟩

end Go.Proofs.Ytndobgodeicloaa
end
namespace Go.Nm
structure SOk (c u x : Int) : Prop where
  u0 : 0 <= u
  u1 : u <= c
  x0 : 0 <= x
  x1 : x < 251
theorem SOk.mono {c d u x : Int} (h : SOk c u x) (hd : c <= d) : SOk d u x := ⟨h.u0, Int.le_trans h.u1 hd, h.x0, h.x1⟩
/-- What a stream gives: a number below n. -/
structure Nx (c n : Int) (y : Int × Int × Int) : Prop where
  ok : SOk c y.2.1 y.2.2
  lt : 1 <= n -> 0 <= y.1 /\ y.1 < n
  no : n < 1 -> y.1 = 0
end Go.Nm
namespace Go.Proofs.Ytndobgodeicloaa
open Go Go.Nm
theorem next_out {b : List UInt8} {c u x n : Int} (h : SOk c u x) (hc : c <= 1000000000000) (hn : n <= 1000000) : (zaa b u x n).Out (Nx (c + 1) n) := by
  obtain ⟨u0, u1, x0, x1⟩ := h
  unfold zaa
  refine M.o_if (fun hb => ?_) (fun hb => ?_)
  · simp only [Bool.or_eq_true, decide_eq_true_eq, beq_iff_eq] at hb
    refine M.o_pure ⟨⟨u0, by dsimp only; omega, x0, x1⟩, fun h1 => ⟨Int.le_refl _, ?_⟩, fun _ => rfl⟩
    dsimp only
    omega
  · simp only [Bool.or_eq_false_iff, decide_eq_false_iff_not, beq_eq_false_iff_ne, ne_eq] at hb
    have hl : (0 : Int) < (b.length : Int) := by omega
    have m0 := Int.emod_nonneg u (show (b.length : Int) ≠ 0 by omega)
    have m1 := Int.emod_lt_of_pos u hl
    have d0 := Int.ediv_nonneg u0 (show (0 : Int) <= (b.length : Int) by omega)
    have d1 : u / (b.length : Int) <= u := Int.ediv_le_self _ u0
    have y1 : ((b.getD (Int.toNat (u % (b.length : Int))) 0).toNat : Int) < 256 := by
      have := UInt8.toNat_lt (b.getD (Int.toNat (u % (b.length : Int))) 0)
      omega
    have y0 : (0 : Int) <= ((b.getD (Int.toNat (u % (b.length : Int))) 0).toNat : Int) := Int.natCast_nonneg _
    generalize ((b.getD (Int.toNat (u % (b.length : Int))) 0).toNat : Int) = y at *
    generalize u % (b.length : Int) = m at *
    generalize u / (b.length : Int) = d at *
    have hn0 : 0 < n := by omega
    have fin : ∀ z : Int, 0 <= z -> 0 <= z % n /\ z % n < n := fun z hz => ⟨Int.emod_nonneg _ (by omega), Int.emod_lt_of_pos _ hn0⟩
    have pr : ∀ z w : Int, 0 <= z -> Nx (c + 1) n (z % n, u + 1, w % 251) := fun z w hz => ⟨⟨by dsimp only; omega, by dsimp only; omega, by dsimp only; omega, by dsimp only; omega⟩, fun _ => fin z hz, fun h => by omega⟩
    refine M.o_grd (by simp only [Bool.and_eq_true, decide_eq_true_eq]; omega) (M.o_grd (by simp only [Bool.and_eq_true, decide_eq_true_eq]; omega) (M.o_grd (by simp only [Bool.and_eq_true, decide_eq_true_eq]; omega) ?_))
    refine M.o_if (fun h1 => ?_) (fun h1 => ?_)
    · refine M.o_grd (by simp only [Bool.and_eq_true, decide_eq_true_eq]; omega) (M.o_grd (by simp only [Bool.and_eq_true, decide_eq_true_eq]; omega) (M.o_grd (by simp only [Bool.and_eq_true, decide_eq_true_eq]; omega) (M.o_grd (by simp only [Bool.and_eq_true, decide_eq_true_eq]; omega) (M.o_grd (by simp only [Bool.and_eq_true, decide_eq_true_eq]; omega) ?_))))
      refine M.o_grd (by simp only [Bool.and_eq_true, decide_eq_true_eq]; omega) (M.o_grd (by simp only [Bool.and_eq_true, decide_eq_true_eq]; omega) (M.o_grd (by simp only [Bool.and_eq_true, decide_eq_true_eq]; omega) (M.o_grd (by simp only [Bool.and_eq_true, decide_eq_true_eq]; omega) ?_)))
      refine M.o_if (fun h2 => ?_) (fun h2 => ?_)
      · refine M.o_grd (by simp only [Bool.and_eq_true, decide_eq_true_eq]; omega) (M.o_grd (by simp only [Bool.and_eq_true, decide_eq_true_eq]; omega) (M.o_grd (by simp only [Bool.and_eq_true, decide_eq_true_eq]; omega) (M.o_pure (pr _ _ (by omega)))))
      · refine M.o_grd (by simp only [Bool.and_eq_true, decide_eq_true_eq]; omega) (M.o_pure (pr _ _ (by omega)))
    · refine M.o_grd (by simp only [Bool.and_eq_true, decide_eq_true_eq]; omega) (M.o_grd (by simp only [Bool.and_eq_true, decide_eq_true_eq]; omega) (M.o_grd (by simp only [Bool.and_eq_true, decide_eq_true_eq]; omega) (M.o_grd (by simp only [Bool.and_eq_true, decide_eq_true_eq]; omega) (M.o_grd (by simp only [Bool.and_eq_true, decide_eq_true_eq]; omega) ?_))))
      refine M.o_if (fun h2 => ?_) (fun h2 => ?_)
      · refine M.o_grd (by simp only [Bool.and_eq_true, decide_eq_true_eq]; omega) (M.o_grd (by simp only [Bool.and_eq_true, decide_eq_true_eq]; omega) (M.o_grd (by simp only [Bool.and_eq_true, decide_eq_true_eq]; omega) (M.o_pure (pr _ _ (by omega)))))
      · refine M.o_grd (by simp only [Bool.and_eq_true, decide_eq_true_eq]; omega) (M.o_pure (pr _ _ (by omega)))
theorem within_out {b : List UInt8} {c u x lo hi : Int} (h : SOk c u x) (hc : c <= 1000000000000) (h0 : -1000 <= lo) (h1 : lo <= hi) (h2 : hi <= 10000) : (zba b u x lo hi).Out (fun y => SOk (c + 1) y.2.1 y.2.2 /\ lo <= y.1 /\ y.1 <= hi) := by
  unfold zba
  refine M.o_grd (gA2 (by omega) (by omega)) (M.o_grd (gA2 (by omega) (by omega)) (M.o_bind (next_out h hc (by omega)) ?_))
  rintro ⟨r, u', x'⟩ ⟨k, hl, _⟩
  have := hl (by omega)
  dsimp only at this k ⊢
  exact M.o_grd (gA2 (by omega) (by omega)) (M.o_pure ⟨k, by dsimp only; omega, by dsimp only; omega⟩)
/-! ### Works -/
structure OfOk (i : Nat) (l : List Int) : Prop where
  few : l.length <= 5
  ahead : ∀ k ∈ l, 0 <= k /\ k < (i : Int)
  once : l.Nodup
  early : i <= 2 -> l = []
theorem made_of {b : List UInt8} {c u x : Int} (h : SOk c u x) (hc : c <= 1000000000) {i : Nat} (hi : i <= 1000) :
    (M.iter (zaT b i) (u, x, (i : Int) - 1, [])).Out (fun y => SOk (c + i) y.1 y.2.1 /\ OfOk i y.2.2.2) := by
  refine M.o_iter (fun (m : Nat) (s : Int × Int × Int × List Int) => m = (s.2.2.1 + 1).toNat /\ -1 <= s.2.2.1 /\ s.2.2.1 < i /\ SOk (c + (i : Int) - (s.2.2.1 + 1)) s.1 s.2.1 /\ s.2.2.2.length <= 5 /\ (∀ k ∈ s.2.2.2, s.2.2.1 < k /\ k < (i : Int)) /\ s.2.2.2.Nodup /\ (i <= 2 -> s.2.2.2 = [])) ?_ _ (u, x, (i : Int) - 1, []) ⟨rfl, by dsimp only; omega, by dsimp only; omega, h.mono (by dsimp only; omega), by simp, by simp, by simp, fun _ => rfl⟩
  rintro m ⟨u, x, k, l⟩ ⟨rfl, k0, k1, hs, h5, hk, hn, he⟩
  dsimp only at k0 k1 hs h5 hk hn he ⊢
  simp only [zaT]
  refine M.o_if (fun hb => ?_) (fun hb => ?_)
  · simp only [Bool.and_eq_true, decide_eq_true_eq] at hb
    refine M.o_bind (next_out hs (by omega) (by omega)) ?_
    rintro ⟨r, u', x'⟩ ⟨ok, _, _⟩
    dsimp only at ok ⊢
    refine M.o_if (fun hr => ?_) (fun hr => ?_)
    · refine M.o_grdD (by simp only [List.length_cons, List.length_nil]; omega) (M.o_grd (gA2 (by omega) (by omega)) (M.o_pure ⟨k.toNat, by omega, ?_⟩))
      refine ⟨by dsimp only; omega, by dsimp only; omega, by dsimp only; omega, ok.mono (by dsimp only; omega), ?_, ?_, ?_, ?_⟩
      · simp only [List.length_append, List.length_cons, List.length_nil]; omega
      · intro y hy
        simp only [List.mem_append, List.mem_cons, List.not_mem_nil, or_false] at hy
        rcases hy with hy | hy
        · have := hk y hy; dsimp only; omega
        · subst hy; dsimp only; omega
      · dsimp only
        rw [List.nodup_append]
        refine ⟨hn, by simp, fun a ha b hb e => ?_⟩
        simp only [List.mem_cons, List.not_mem_nil, or_false] at hb
        have := hk a ha
        omega
      · intro h2; omega
    · refine M.o_grd (gA2 (by omega) (by omega)) (M.o_pure ⟨k.toNat, by omega, ?_⟩)
      exact ⟨by dsimp only; omega, by dsimp only; omega, by dsimp only; omega, ok.mono (by dsimp only; omega), h5, fun y hy => by have := hk y hy; dsimp only; omega, hn, he⟩
  · refine M.o_pure ⟨hs.mono (by omega), h5, fun y hy => ?_, hn, he⟩
    have := hk y hy
    omega
/-- What works of numbers are like. -/
structure MadeW (most : Int) (ws : List Work) : Prop where
  built : Built ws
  two : 2 <= ws.length
  most : (ws.length : Int) <= most
  small : ∀ i, i < ws.length -> (ws.getD i default).base < 2000 /\ (ws.getD i default).minutes < 60
  src : ∀ i, i < ws.length -> i <= 2 -> (ws.getD i default).of = []
theorem made_out {b : List UInt8} {c u x most : Int} (h : SOk c u x) (hc : c <= 100000000) (h2 : 2 <= most) (h30 : most <= 30) : (zbg b u x most).Out (fun y => MadeW most y.1 /\ SOk (c + 2000) y.2.1 y.2.2) := by
  unfold zbg
  refine M.o_bind (within_out h (by omega) (by omega) h2 (by omega)) ?_
  rintro ⟨r, u1, x1⟩ ⟨hs, r0, r1⟩
  dsimp only at hs r0 r1 ⊢
  refine M.o_bind (P := fun y => MadeW most y.2.1 /\ SOk (c + 2000) y.2.2.1 y.2.2.2) ?_ (fun y hy => M.o_pure hy)
  refine M.o_for r.toNat (fun i s => s.2.2.1 = i /\ SOk (c + 1 + 40 * i) s.1 s.2.1 /\ s.2.2.2.length = i /\ (∀ j, j < i -> BuiltAt j (s.2.2.2.getD j default) /\ (s.2.2.2.getD j default).base < 2000 /\ (s.2.2.2.getD j default).minutes < 60 /\ (j <= 2 -> (s.2.2.2.getD j default).of = []))) ?_ ?_ (s := (u1, x1, 0, [])) ⟨rfl, hs.mono (by omega), rfl, fun j hj => by omega⟩
  · rintro i ⟨u, x, j, l⟩ hi ⟨rfl, ok, hl, hj⟩
    dsimp only at hi ok hl hj ⊢
    simp only [za5]
    refine M.o_t (by simp; omega) (M.o_bind (next_out ok (by omega) (by omega)) ?_)
    rintro ⟨r3, u3, x3⟩ ⟨ok3, l3, _⟩
    dsimp only at ok3 l3 ⊢
    have l3 := l3 (by omega)
    refine M.o_bind (next_out ok3 (by omega) (by omega)) ?_
    rintro ⟨r4, u4, x4⟩ ⟨ok4, l4, _⟩
    dsimp only at ok4 l4 ⊢
    have l4 := l4 (by omega)
    refine M.o_grd (gA2 (by omega) (by omega)) (M.o_bind (made_of ok4 (by omega) (i := j) (by omega)) ?_)
    rintro ⟨u5, x5, la, lo⟩ ⟨ok5, hof⟩
    dsimp only at ok5 hof ⊢
    refine M.o_grdD (by simp only [List.length_cons, List.length_nil]; omega) (M.o_grd (gA2 (by omega) (by omega)) (M.o_pure ?_))
    refine ⟨rfl, ok5.mono (by omega), by simp [hl], fun k hk => ?_⟩
    dsimp only
    by_cases e : k < l.length
    · rw [getD_app_left _ _ e]
      exact hj k (by omega)
    · obtain rfl : k = l.length := by omega
      rw [getD_app_mid]
      refine ⟨⟨hof.few, ⟨l3.1, by dsimp only; omega⟩, ⟨l4.1, by dsimp only; omega⟩, ?_, hof.once⟩, l3.2, l4.2, ?_⟩
      · rw [hl]; exact hof.ahead
      · rw [hl]; exact hof.early
  · rintro ⟨u, x, j, l⟩ ⟨rfl, ok, hl, hj⟩
    dsimp only at ok hl hj ⊢
    simp only [za5]
    refine M.o_f (by simp; omega) (M.o_pure ⟨⟨⟨by dsimp only; omega, fun i hi => (hj i (Nat.lt_of_lt_of_eq hi hl)).1⟩, by dsimp only; omega, by dsimp only; omega, fun i hi => ⟨(hj i (Nat.lt_of_lt_of_eq hi hl)).2.1, (hj i (Nat.lt_of_lt_of_eq hi hl)).2.2.1⟩, fun i hi => (hj i (Nat.lt_of_lt_of_eq hi hl)).2.2.2⟩, ok.mono (by omega)⟩)
end Go.Proofs.Ytndobgodeicloaa
namespace Go.Nm
theorem noteV_other {f : Int -> Option Note} {out : List Int} {i x : Int} (h0 : 0 <= i) (h1 : 0 <= x) (hne : i ≠ x) (d : Int) : (noteV f out i).getD x.toNat d = out.getD x.toNat d := by
  unfold noteV
  split
  · simp only [List.getD_eq_getElem?_getD, List.getElem?_set]
    rw [if_neg (by omega)]
  · rfl
theorem valStep_other {ws : List Work} {f : Int -> Option Note} {out : List Int} {i x : Int} (h0 : 0 <= i) (h1 : 0 <= x) (hne : i ≠ x) (d : Int) : (valStep ws f out i).getD x.toNat d = out.getD x.toNat d := by
  unfold valStep
  split
  · exact noteV_other h0 h1 hne d
  · rw [← noteV_other (f := f) (out := out) h0 h1 hne d]
    simp only [List.getD_eq_getElem?_getD, List.getElem?_set]
    rw [if_neg (by omega)]
theorem valF_other {ws : List Work} {f : Int -> Option Note} {x : Int} (h1 : 0 <= x) (d : Int) : ∀ (l out : List Int), (∀ y ∈ l, 0 <= y) -> x ∉ l -> (valF ws f l out).getD x.toNat d = out.getD x.toNat d
  | [], _, _, _ => rfl
  | i :: l, out, h0, hx => by
    rw [List.mem_cons, not_or] at hx
    show (valF ws f l (valStep ws f out i)).getD x.toNat d = _
    rw [valF_other h1 d l _ (fun y hy => h0 y (List.mem_cons_of_mem _ hy)) hx.2]
    exact valStep_other (h0 i (List.mem_cons_self ..)) h1 (fun e => hx.1 e.symm) d
theorem sumV_congr {a b : List Int} {base : Int} {of : List Int} (h : ∀ x ∈ of, a.getD x.toNat 0 = b.getD x.toNat 0) : ∀ j, j <= of.length -> sumV a base of j = sumV b base of j
  | 0, _ => rfl
  | j + 1, hj => by
    simp only [sumV]
    rw [sumV_congr h j (by omega), h _ (getD_memN of (by omega) 0)]
/-- What a note says, or none. -/
def nv (o : Option Note) : Int := match o with | some n => n.value | none => -1
theorem noteV_at {f : Int -> Option Note} {out : List Int} {i : Int} (h0 : 0 <= i) (h1 : i < out.length) (hn : out.getD i.toNat 0 = -1) : (noteV f out i).getD i.toNat 0 = nv (f i) := by
  unfold noteV nv
  cases hf : f i with
  | none => simpa using hn
  | some n =>
    rw [if_pos (by simp), gset _ _ _ _ _ (by omega), if_pos rfl]
    simp
end Go.Nm
namespace Go.Nm
theorem newF_nv {l : List Note} (hr : rngB l = true) : ∀ k, (newF l k).isSome = true -> 0 <= ((newF l k).getD default).value /\ ((newF l k).getD default).value <= 1000002 := by
  intro k h
  have := newF_val (l := l) (by rw [hr]; rfl) l.length k
  rw [List.take_length] at this
  exact this h
end Go.Nm
namespace Go.Nm
variable {ws : List Work} {l e : List Note}
/-! ### Notes -/
def Uniq (l : List Note) : Prop := ∀ a ∈ l, ∀ b ∈ l, a.work = b.work -> a.version = b.version -> a = b
theorem Uniq.add {l l' : List Note} {n : Note} (h : Uniq l) (hm : ∀ a ∈ l', a ∈ l ∨ a = n) (hn : ∀ a ∈ l, ¬ (a.work = n.work /\ a.version = n.version)) : Uniq l' := by
  intro a ha b hb h1 h2
  rcases hm a ha with ha | rfl <;> rcases hm b hb with hb | rfl
  · exact h a ha b hb h1 h2
  · exact absurd ⟨h1, h2⟩ (hn a ha)
  · exact absurd ⟨h1.symm, h2.symm⟩ (hn b hb)
  · rfl
structure NG (ws : List Work) (l : List Note) : Prop where
  few : l.length <= 200
  src : ∀ n ∈ l, 0 <= n.work /\ n.work < (ws.length : Int) /\ (ws.getD n.work.toNat default).of = []
  rng : ∀ n ∈ l, 0 <= n.version /\ n.version <= 1000000 /\ 0 <= n.value /\ n.value <= 1000002
  uniq : Uniq l
theorem NG.arg (h : NG ws l) : argB ws l = true := by
  unfold argB
  rw [List.all_eq_true]
  intro n hn
  obtain ⟨h1, h2, h3⟩ := h.src n hn
  rw [h3]
  unfold inB
  simp only [Bool.and_eq_true, decide_eq_true_eq, List.length_nil]
  exact ⟨⟨h1, by omega⟩, rfl⟩
theorem NG.rg (h : NG ws l) : rngB l = true := by
  unfold rngB
  rw [List.all_eq_true]
  intro n hn
  obtain ⟨h1, h2, h3, h4⟩ := h.rng n hn
  unfold inB
  simp only [Bool.and_eq_true, decide_eq_true_eq]
  exact ⟨⟨h1, h2⟩, h3, h4⟩
theorem NG.tw (h : NG ws l) : (List.range l.length).any (twAt l) = false := by
  rw [List.any_eq_false]
  intro i hi ht
  have hi := List.mem_range.1 hi
  unfold twAt at ht
  obtain ⟨m, hm, hp⟩ := List.any_eq_true.1 ht
  have hb := getD_memN l (by omega : (i : Int) < _) default
  have ha := List.mem_of_mem_take hm
  unfold twP at hp
  simp only [Bool.and_eq_true, beq_iff_eq, Bool.not_eq_true', decide_eq_false_iff_not] at hp
  exact hp.2 (h.uniq m ha _ hb hp.1.1 hp.1.2)
theorem NG.err (h : NG ws l) (hO : openedE ws = 0) : valuesE ws l = 0 := by
  have := h.few
  unfold valuesE
  rw [if_neg (by simp [hO]), if_neg (by omega), h.arg, h.rg, h.tw]
  rfl
theorem NG.vals (h : NG ws l) (hO : openedE ws = 0) : valuesR ws l = valL ws l := by
  unfold valuesR
  rw [if_pos (h.err hO)]
theorem newF_some : ∀ (l : List Note) (f : Int -> Option Note) (i : Int), ((f i).isSome = true ∨ ∃ n ∈ l, n.work = i) -> (l.foldl newStep f i).isSome = true
  | [], f, i, h => by
    rcases h with h | ⟨n, hn, _⟩
    · exact h
    · simp at hn
  | m :: l, f, i, h => by
    refine newF_some l (newStep f m) i ?_
    have keep : (f i).isSome = true -> (newStep f m i).isSome = true := by
      intro h
      unfold newStep
      split
      · unfold updF
        split
        · rfl
        · exact h
      · exact h
    rcases h with h | ⟨n, hn, rfl⟩
    · exact .inl (keep h)
    · rcases List.mem_cons.1 hn with rfl | hn
      · left
        unfold newStep
        cases hf : (f n.work).isSome with
        | true =>
          split
          · simp [updF]
          · exact hf
        | false => simp [updF]
      · exact .inr ⟨n, hn, rfl⟩
/-! ### Values -/
theorem val_eq (hO : openedE ws = 0) (f : Int -> Option Note) {i : Int} (h0 : 0 <= i) (h1 : i < ws.length) :
    (valF ws f (orderP ws) (List.replicate ws.length (-1))).getD i.toNat 0 =
      if (((ws.getD i.toNat default).of.length : Int) == 0) || !((ws.getD i.toNat default).of.all fun k => (valF ws f (orderP ws) (List.replicate ws.length (-1))).getD k.toNat 0 != -1) then nv (f i)
      else sumV (valF ws f (orderP ws) (List.replicate ws.length (-1))) (ws.getD i.toNat default).base (ws.getD i.toNat default).of (ws.getD i.toNat default).of.length % 1000003 := by
  have hm := order_all hO h0 h1
  obtain ⟨l1, l2, hs⟩ := List.append_of_mem hm
  have hg := order_good ws
  have hof : ∀ k ∈ (ws.getD i.toNat default).of, k ∈ l1 := by
    have := hg.2.2 l1.length (by rw [hs]; simp)
    rw [hs] at this
    rw [show (l1 ++ i :: l2).getD l1.length 0 = i from by rw [List.getD_eq_getElem?_getD, List.getElem?_append_right (Nat.le_refl _), Nat.sub_self]; rfl, List.take_left] at this
    exact this
  have hnd := hg.1
  rw [hs, List.nodup_append] at hnd
  have hi2 : i ∉ l2 := (List.nodup_cons.1 hnd.2.1).1
  have hi1 : i ∉ l1 := fun hm => hnd.2.2 i hm i (by simp) rfl
  have hpos : ∀ y ∈ orderP ws, 0 <= y := fun y hy => (hg.2.1 y hy).1
  have hp1 : ∀ y ∈ l1, 0 <= y := fun y hy => hpos y (by rw [hs]; simp [hy])
  have hp2 : ∀ y ∈ l2, 0 <= y := fun y hy => hpos y (by rw [hs]; simp [hy])
  have hl : (valF ws f l1 (List.replicate ws.length (-1))).length = ws.length := by rw [valF_len]; simp
  have hsplit : valF ws f (orderP ws) (List.replicate ws.length (-1)) = valF ws f l2 (valStep ws f (valF ws f l1 (List.replicate ws.length (-1))) i) := by
    unfold valF
    rw [hs, List.foldl_append]
    rfl
  have hz : (valF ws f l1 (List.replicate ws.length (-1))).getD i.toNat 0 = -1 := by
    rw [valF_other h0 0 l1 _ hp1 hi1, getD_el _ (by rw [List.length_replicate]; omega)]
    simp
  have hk : ∀ k ∈ (ws.getD i.toNat default).of, (noteV f (valF ws f l1 (List.replicate ws.length (-1))) i).getD k.toNat 0 = (valF ws f (orderP ws) (List.replicate ws.length (-1))).getD k.toNat 0 := by
    intro k hk
    have hk1 := hof k hk
    have hk0 := hp1 k hk1
    have hne : i ≠ k := fun e => hi1 (e ▸ hk1)
    have hk2 : k ∉ l2 := fun hm => hnd.2.2 k hk1 k (by simp [hm]) rfl
    rw [hsplit, valF_other hk0 0 l2 _ hp2 hk2, valStep_other h0 hk0 hne, noteV_other h0 hk0 hne]
  have hall : ((ws.getD i.toNat default).of.all fun k => (noteV f (valF ws f l1 (List.replicate ws.length (-1))) i).getD k.toNat 0 != -1) = ((ws.getD i.toNat default).of.all fun k => (valF ws f (orderP ws) (List.replicate ws.length (-1))).getD k.toNat 0 != -1) := by
    rw [Bool.eq_iff_iff, List.all_eq_true, List.all_eq_true]
    exact ⟨fun hh x hx => by rw [← hk x hx]; exact hh x hx, fun hh x hx => by rw [hk x hx]; exact hh x hx⟩
  have hsv := sumV_congr (base := (ws.getD i.toNat default).base) hk (ws.getD i.toNat default).of.length (Nat.le_refl _)
  rw [← hall, ← hsv]
  rw [hsplit, valF_other h0 0 l2 _ hp2 hi2]
  unfold valStep
  split
  · exact noteV_at h0 (by omega) hz
  · rw [gset _ _ _ _ _ (by rw [noteV_len]; omega), if_pos rfl]
theorem valL_len (ws : List Work) (l : List Note) : (valL ws l).length = ws.length := by unfold valL; rw [valF_len]; simp
/-- Each source has a note. -/
def Full (ws : List Work) (l : List Note) : Prop := ∀ i, i < ws.length -> (ws.getD i default).of = [] -> ∃ n ∈ l, n.work = (i : Int)
theorem val_known (hB : Built ws) (hN : NG ws l) (hF : Full ws l) : ∀ i, i < ws.length -> 0 <= (valL ws l).getD i 0 /\ (valL ws l).getD i 0 <= 1000002 := by
  intro i
  induction i using Nat.strongRecOn with
  | _ i ih =>
    intro hi
    have he := val_eq hB.opened (newF l) (i := (i : Int)) (by omega) (by omega)
    rw [Int.toNat_natCast] at he
    have he : (valL ws l).getD i 0 = _ := he
    rw [he]
    by_cases h0 : (ws.getD i default).of = []
    · rw [if_pos (by rw [h0]; rfl)]
      have hs := newF_some l (fun _ => none) (i : Int) (.inr (hF i hi h0))
      have hv := newF_nv hN.rg (i : Int) hs
      have hs : (newF l (i : Int)).isSome = true := hs
      revert hs hv
      cases newF l (i : Int) with
      | none => intro _ h; simp at h
      | some n => intro hv _; exact hv
    · have hk : ((ws.getD i default).of.all fun k => (valF ws (newF l) (orderP ws) (List.replicate ws.length (-1))).getD k.toNat 0 != -1) = true := by
        rw [List.all_eq_true]
        intro k hk
        have ha := (hB.at_ i hi).ahead k hk
        have := ih k.toNat (by omega) (by omega)
        have h2 : 0 <= (valF ws (newF l) (orderP ws) (List.replicate ws.length (-1))).getD k.toNat 0 := this.1
        simp only [bne_iff_ne, ne_eq]
        omega
      have hz : (((ws.getD i default).of.length : Int) == 0) = false := by
        cases hc : (ws.getD i default).of with
        | nil => exact absurd hc h0
        | cons a b => simp; omega
      rw [if_neg (by rw [hk, hz]; decide)]
      omega
/-! ### Lists in order -/
theorem asc_of {l : List Int} (h : l.Pairwise (· < ·)) : AscTo l l.length := by
  intro j h1 h2
  rw [getD_el l (by omega) 0, getD_el l h2 0]
  exact List.pairwise_iff_getElem.1 h (j - 1) j (by omega) h2 (by omega)
theorem listed_of {n : Nat} {l : List Int} (h : ∀ x ∈ l, 0 <= x /\ x < (n : Int)) (ha : l.Pairwise (· < ·)) : listedE n l = 0 := by
  unfold listedE
  rw [if_neg, if_pos (asc_of ha)]
  rw [Bool.not_eq_true, Bool.not_eq_false', List.all_eq_true]
  intro x hx
  have := h x hx
  unfold inB
  simp only [Bool.and_eq_true, decide_eq_true_eq]
  omega
theorem pair_snoc {l : List Int} {x : Int} (h : l.Pairwise (· < ·)) (hx : ∀ y ∈ l, y < x) : (l ++ [x]).Pairwise (· < ·) := by
  rw [List.pairwise_append]
  exact ⟨h, by simp, fun a ha b hb => by rw [List.mem_singleton.1 hb]; exact hx a ha⟩
/-! ### Publications -/
end Go.Nm
namespace Go.Nm
structure NtOk (ws : List Work) (s : Nat) (l6 l7 : List Note) : Prop where
  src : ∀ n ∈ l6 ++ l7, 0 <= n.work /\ n.work < (s : Int) /\ (ws.getD n.work.toNat default).of = []
  rng : ∀ n ∈ l6 ++ l7, 0 <= n.version /\ n.version <= 8 /\ 0 <= n.value /\ n.value < 2000
  uniq : Uniq (l6 ++ l7)
  all : ∀ i, i < s -> (ws.getD i default).of = [] -> ∃ n ∈ l6, n.work = (i : Int)
  len6 : l6.length <= s
  len7 : l7.length <= 8 * s
theorem NtOk.next {ws : List Work} {s : Nat} {l6 l7 : List Note} (h : NtOk ws s l6 l7) (hs : (ws.getD s default).of ≠ []) : NtOk ws (s + 1) l6 l7 :=
  ⟨fun n hn => by have := h.src n hn; exact ⟨this.1, by omega, this.2.2⟩, h.rng, h.uniq, fun i hi he => by
    by_cases e : i = s
    · subst e; exact absurd he hs
    · exact h.all i (by omega) he, by have := h.len6; omega, by have := h.len7; omega⟩
/-- Old notes of one source, up to a version. -/
structure OldOk (ws : List Work) (s v : Nat) (n0 : Note) (l6 l7 l : List Note) : Prop where
  src : ∀ b ∈ l, b ∈ l7 ∨ (b.work = (s : Int) /\ 0 <= b.version /\ b.version < (v : Int) /\ 0 <= b.value /\ b.value < 2000)
  uniq : Uniq ((l6 ++ [n0]) ++ l)
  len : l.length <= l7.length + v
theorem NtOk.start {ws : List Work} {s : Nat} {l6 l7 : List Note} (h : NtOk ws s l6 l7) {n0 : Note} (hw : n0.work = (s : Int)) : OldOk ws s 0 n0 l6 l7 l7 := by
  refine ⟨fun b hb => .inl hb, ?_, Nat.le_refl _⟩
  refine h.uniq.add (n := n0) (fun a ha => ?_) (fun a ha hh => ?_)
  · simp only [List.mem_append, List.mem_cons, List.not_mem_nil, or_false] at ha ⊢
    rcases ha with (ha | ha) | ha
    · exact .inl (.inl ha)
    · exact .inr ha
    · exact .inl (.inr ha)
  · have := h.src a ha
    rw [hw] at hh
    omega
theorem OldOk.skip {ws : List Work} {s v : Nat} {n0 : Note} {l6 l7 l : List Note} (h : OldOk ws s v n0 l6 l7 l) : OldOk ws s (v + 1) n0 l6 l7 l :=
  ⟨fun b hb => (h.src b hb).imp id fun x => ⟨x.1, x.2.1, by omega, x.2.2.2⟩, h.uniq, by have := h.len; omega⟩
theorem OldOk.put {ws : List Work} {s v : Nat} {n0 : Note} {l6 l7 l : List Note} (hN : NtOk ws s l6 l7) (h : OldOk ws s v n0 l6 l7 l) (hv : (v : Int) < n0.version) {z : Int} (z0 : 0 <= z) (z1 : z < 2000) :
    OldOk ws s (v + 1) n0 l6 l7 (l ++ [⟨(s : Int), (v : Int), z⟩]) := by
  refine ⟨fun b hb => ?_, ?_, by have := h.len; simp only [List.length_append, List.length_cons, List.length_nil]; omega⟩
  · rcases List.mem_append.1 hb with hb | hb
    · exact h.skip.src b hb
    · rw [List.mem_singleton] at hb
      subst hb
      exact .inr ⟨rfl, by dsimp only; omega, by dsimp only; omega, z0, z1⟩
  · refine h.uniq.add (n := ⟨(s : Int), (v : Int), z⟩) (fun a ha => ?_) (fun a ha hh => ?_)
    · rw [← List.append_assoc, List.mem_append, List.mem_singleton] at ha
      exact ha
    · dsimp only at hh
      simp only [List.mem_append, List.mem_cons, List.not_mem_nil, or_false] at ha
      rcases ha with (ha | ha) | ha
      · have := hN.src a (List.mem_append_left _ ha); omega
      · subst ha; omega
      · rcases h.src a ha with ha | ha
        · have := hN.src a (List.mem_append_right _ ha); omega
        · omega
theorem OldOk.done {ws : List Work} {s v : Nat} {n0 : Note} {l6 l7 l : List Note} (hN : NtOk ws s l6 l7) (h : OldOk ws s v n0 l6 l7 l) (hw : n0.work = (s : Int)) (hs : (ws.getD s default).of = [])
    (hv : 0 <= n0.version /\ n0.version <= 8 /\ 0 <= n0.value /\ n0.value < 2000) (hv8 : (v : Int) <= 8) : NtOk ws (s + 1) (l6 ++ [n0]) l := by
  have hm : ∀ n ∈ (l6 ++ [n0]) ++ l, n ∈ l6 ++ l7 ∨ n = n0 ∨ (n.work = (s : Int) /\ 0 <= n.version /\ n.version < (v : Int) /\ 0 <= n.value /\ n.value < 2000) := by
    intro n hn
    simp only [List.mem_append, List.mem_cons, List.not_mem_nil, or_false] at hn ⊢
    rcases hn with (hn | hn) | hn
    · exact .inl (.inl hn)
    · exact .inr (.inl hn)
    · rcases h.src n hn with h1 | h1
      · exact .inl (.inr h1)
      · exact .inr (.inr h1)
  refine ⟨fun n hn => ?_, fun n hn => ?_, h.uniq, fun i hi he => ?_, ?_, ?_⟩
  · rcases hm n hn with h1 | h1 | h1
    · have := hN.src n h1; exact ⟨this.1, by omega, this.2.2⟩
    · subst h1; rw [hw]; exact ⟨by omega, by omega, by rw [Int.toNat_natCast]; exact hs⟩
    · rw [h1.1]; exact ⟨by omega, by omega, by rw [Int.toNat_natCast]; exact hs⟩
  · rcases hm n hn with h1 | h1 | h1
    · exact hN.rng n h1
    · subst h1; exact hv
    · omega
  · by_cases e : i = s
    · exact ⟨n0, by simp, by rw [hw, e]⟩
    · obtain ⟨n, h1, h2⟩ := hN.all i (by omega) he
      exact ⟨n, List.mem_append_left _ h1, h2⟩
  · have := hN.len6; simp only [List.length_append, List.length_cons, List.length_nil]; omega
  · have := hN.len7; have := h.len; omega
theorem NtOk.ng {ws : List Work} {l6 l7 : List Note} (h : NtOk ws ws.length l6 l7) (hl : ws.length <= 20) : NG ws (l6 ++ l7) :=
  ⟨by have := h.len6; have := h.len7; rw [List.length_append]; omega, h.src, fun n hn => by have := h.rng n hn; omega, h.uniq⟩
theorem NtOk.full {ws : List Work} {l6 l7 : List Note} (h : NtOk ws ws.length l6 l7) : Full ws (l6 ++ l7) := fun i hi he => by
  obtain ⟨n, h1, h2⟩ := h.all i hi he
  exact ⟨n, List.mem_append_left _ h1, h2⟩
/-- The numbers from 0 to n - 1. -/
def upto (n : Nat) : List Int := (List.range n).map fun j : Nat => (j : Int)
theorem upto_succ (n : Nat) : upto (n + 1) = upto n ++ [(n : Int)] := by
  unfold upto
  rw [List.range_succ, List.map_append]
  rfl
end Go.Nm
namespace Go.Proofs.Ytndobgodeicloaa
open Go Go.Nm
variable {ws : List Work}
theorem noted_old {b : List UInt8} {c u x : Int} (h : SOk c u x) (hc : c <= 1000000000) {s : Nat} {r z : Int} {l6 l7 : List Note} (hN : NtOk ws s l6 l7) (hl : s <= 100) (hr : 0 <= r /\ r <= 8) :
    (M.iter (zaO b s r) (u, x, 0, l7)).Out (fun y => SOk (c + 20) y.1 y.2.1 /\ OldOk ws s r.toNat ⟨(s : Int), r, z⟩ l6 l7 y.2.2.2) := by
  refine M.o_for r.toNat (fun i st => st.2.2.1 = i /\ SOk (c + 2 * (i : Int)) st.1 st.2.1 /\ OldOk ws s i ⟨(s : Int), r, z⟩ l6 l7 st.2.2.2) ?_ ?_ (s := (u, x, 0, l7)) ⟨rfl, h.mono (by omega), hN.start rfl⟩
  · rintro i ⟨u, x, j, l⟩ hi ⟨rfl, ok, ho⟩
    dsimp only at hi ok ho ⊢
    have h7 := hN.len7
    have ho7 := ho.len
    simp only [zaO]
    refine M.o_t (by simp; omega) (M.o_bind (next_out ok (by omega) (by omega)) ?_)
    rintro ⟨r4, u4, x4⟩ ⟨ok4, _, _⟩
    dsimp only at ok4 ⊢
    refine M.o_if (fun hb => ?_) (fun hb => ?_)
    · refine M.o_bind (next_out ok4 (by omega) (by omega)) ?_
      rintro ⟨r5, u5, x5⟩ ⟨ok5, l5, _⟩
      dsimp only at ok5 l5 ⊢
      have l5 := l5 (by omega)
      exact M.o_grdD (by simp only [List.length_cons, List.length_nil]; omega) (M.o_grd (gA2 (by omega) (by omega)) (M.o_pure ⟨rfl, ok5.mono (by omega), ho.put hN (by dsimp only; omega) l5.1 l5.2⟩))
    · exact M.o_grd (gA2 (by omega) (by omega)) (M.o_pure ⟨rfl, ok4.mono (by omega), ho.skip⟩)
  · rintro ⟨u, x, j, l⟩ ⟨rfl, ok, ho⟩
    dsimp only at ok ho ⊢
    simp only [zaO]
    exact M.o_f (by simp; omega) (M.o_pure ⟨ok.mono (by omega), ho⟩)
theorem noted_out {b : List UInt8} {c u x : Int} (h : SOk c u x) (hc : c <= 100000000) (hw : ws.length <= 30) :
    (za7 b u x ws).Out (fun y => (∃ l6 l7, y.1 = l6 ++ l7 /\ NtOk ws ws.length l6 l7) /\ SOk (c + 1000) y.2.1 y.2.2) := by
  unfold za7
  refine M.o_bind (P := fun y => NtOk ws ws.length y.2.2.2.1 y.2.2.1 /\ SOk (c + 1000) y.2.2.2.2.1 y.2.2.2.2.2) ?_ ?_
  · refine M.o_for ws.length (fun i st => st.1 = i /\ SOk (c + 30 * (i : Int)) st.2.1 st.2.2.1 /\ NtOk ws i st.2.2.2.1 st.2.2.2.2) ?_ ?_ (s := (0, u, x, [], [])) ⟨rfl, h.mono (by omega), ⟨by simp, by simp, fun a ha => by simp at ha, fun i hi => by omega, by simp, by simp⟩⟩
    · rintro i ⟨j, u, x, l6, l7⟩ hi ⟨rfl, ok, hN⟩
      dsimp only at hi ok hN ⊢
      simp only [za4]
      refine M.o_t (by simpa using hi) (M.o_grdD (by omega) (M.o_if (fun hb => ?_) (fun hb => ?_)))
      · exact M.o_pure ⟨rfl, ok.mono (by omega), hN.next (fun e => by rw [e] at hb; simp at hb)⟩
      · have he : (ws.getD j default).of = [] := by
          simp only [decide_eq_false_iff_not] at hb
          exact List.eq_nil_of_length_eq_zero (by omega)
        refine M.o_bind (next_out ok (by omega) (by omega)) ?_
        rintro ⟨r2, u2, x2⟩ ⟨ok2, l2, _⟩
        dsimp only at ok2 l2 ⊢
        have l2 := l2 (by omega)
        refine M.o_bind (next_out ok2 (by omega) (by omega)) ?_
        rintro ⟨r3, u3, x3⟩ ⟨ok3, l3, _⟩
        dsimp only at ok3 l3 ⊢
        have l3 := l3 (by omega)
        have h6 := hN.len6
        refine M.o_grdD (by simp only [List.length_cons, List.length_nil]; omega) (M.o_bind (noted_old (z := r3) ok3 (by omega) hN (by omega) (by omega)) ?_)
        rintro ⟨u5, x5, la, lo⟩ ⟨ok5, ho⟩
        dsimp only at ok5 ho ⊢
        exact M.o_pure ⟨rfl, ok5.mono (by omega), ho.done hN rfl he ⟨l2.1, by dsimp only; omega, l3.1, l3.2⟩ (by omega)⟩
    · rintro ⟨j, u, x, l6, l7⟩ ⟨rfl, ok, hN⟩
      dsimp only at ok hN ⊢
      simp only [za4]
      exact M.o_f (by simp) (M.o_pure ⟨hN, ok.mono (by omega)⟩)
  · rintro ⟨l8, l9, l10, l11, u, x⟩ ⟨hN, ok⟩
    dsimp only at hN ok ⊢
    have := hN.len6
    have := hN.len7
    exact M.o_grdD (by omega) (M.o_pure ⟨⟨l11, l10, rfl, hN⟩, ok⟩)
end Go.Proofs.Ytndobgodeicloaa
section
set_option maxRecDepth 100000
set_option maxHeartbeats 16000000
namespace Go.Proofs.Ytndobgodeicloaa
open Go Go.Nm
def zao (ab : List Work) (aa : List Int) : Nat -> M (Nat ⊕ (Unit ⊕ Unit)) := fun i =>
  bif decide ((i : Int) < (aa.length : Int)) then (
  M.grd (decide ((i : Int) < (aa.length : Int))) <|
  M.grd (decide ((-9223372036854775808 : Int) <= ((i : Int) - 1)) && decide (((i : Int) - 1) <= (9223372036854775807 : Int))) <|
  M.grd (decide ((0 : Int) <= ((i : Int) - 1)) && decide (((i : Int) - 1) < (aa.length : Int))) <|
  M.bind (zaB ab (aa.getD i 0) (aa.getD (Int.toNat ((i : Int) - 1)) 0)) fun r2 =>
  bif !r2 then (
  M.pure (.inr (.inl ())))
  else (
  M.pure (.inl (i + 1))))
  else (
  M.pure (.inr (.inr ())))
def za2 (ab : List Work) (aa : List Int) : M Bool :=
  M.bind (M.iter (zao ab aa) 1) fun x_ => match x_ with
  | (.inl (_ : Unit)) => (
  M.pure false)
  | (.inr (_ : Unit)) => (
  M.pure (decide (0 < (aa.length : Int))))
theorem zcm {R : List Chunk} {ac : Nat} {am : Cells} {ao : Value} {ap : Cells} {ab : Value} (ah : List Work) (aa : List Int) (ay : Reads R am) (az : Sl am ao ah) (aA : Has R (cBlk ac [ao] 187)) (aq : Reads R ap) (ae : Sl ap ab aa) {r : Bool} (hM : (za2 ah aa).Ends r) (w : World) (H : St w w [] R) : Ret Try.prog 107 #[Pz ac, ab] w fun v w' => ∃ (y0 : Bool), y0 = r /\ v = B y0 /\ St w w' [] R := by
 refine ret_of_W Try.func107 rfl rfl rfl ?_
 refine sQ rfl <| sA (B false) rfl <| s_nil <| sQ rfl <| sM (Pz ac) rfl <| s_val (x_mf (fs := [Pz ac]) (cs := []) rfl rfl) <| sA (.func (.func 149) #[Pz ac] #[]) rfl <| s_nil <| W.seq <| W.seq ?_
 refine W.region rfl <| sA (I 1) rfl <| s_nil <| W.block ?_
 obtain ⟨aB, ai, au⟩ := M.e_bind hM
 obtain ⟨aK, ai⟩ := M.e_iter ai
 refine W.loop (fun m σ W => ∃ (i : Nat) (ρ : Env), σ = upds ρ [(1, ab), (5, .func (.func 149) #[Pz ac] #[]), (6, I (i : Int))] /\ M.iterN (zao ah aa) m i = some aB /\ St w W [] R) ?_ ?_
 ·exact ⟨_, 1, _, upds_of _ _ ⟨rfl, rfl, rfl, trivial⟩, ai, H⟩
 rintro aL σ aM ⟨i, ρ, rfl, av, H⟩
 obtain ⟨aC, aD, aN, hM, aj⟩ := M.e_iterN av
 simp only [zao] at hM
 clear av
 refine W.seq <| sQ rfl <| sM (I (i : Int)) rfl <| sM ab rfl ?_
 have aO := (ae).len_le
 refine s_val (x_lenS T34.und rfl ae) <| sC (i : Int) (aa.length : Int) (decide ((i : Int) < (aa.length : Int))) rfl rfl rfl <| s_nil ?_
 refine W.cond (decide ((i : Int) < (aa.length : Int))) rfl (fun ag => ?_) (fun ag => ?_)
 ·replace hM := M.e_t hM ag
  simp only [qz1, qz2, qz3, qz4, qz5, qz6, ne_eq, qz7] at ag
  refine W.skip <| W.seq <| W.block <| W.seq ?_
  refine W.draw (fun W => St w W [] R) [(0, true), (1, true), (2, true), (3, true), (4, true), (5, true), (6, true), (7, true), (8, true), (9, true), (10, false), (11, true)] mixed (by decide +kernel) rfl ?_
  intro aE aw
  replace H : St w aE [] R := H.ext aw
  clear aw
  refine ⟨(H.pick [] (by decide) rfl), ?_⟩
  refine d_q rfl (fun w' H => x_mv (v := .func (.func 149) #[Pz ac] #[]) rfl) ?_
  refine d_q rfl (fun w' H => x_mv (v := ab) rfl) ?_
  refine d_q rfl (fun w' H => x_mv (v := I (i : Int)) rfl) ?_
  obtain ⟨aP, hM⟩ := M.e_gd hM
  refine d_q rfl (fun w' H => x_ix (a := ab) (b := I (i : Int)) (v := vat ab 1 (Int.toNat (i : Int))) rfl rfl (Sl.ix (α := Int) T34.und T34.size ae (by omega) (by omega))) ?_
  refine d_q rfl (fun w' H => x_ld (p := vat ab 1 (Int.toNat (i : Int))) (v := I (aa.getD i 0)) rfl (ld_sc Sc3 (At.mono (Int_at ae (i := (i : Int)) (by omega) (by omega)) (aq.at H)))) ?_
  refine d_q rfl (fun w' H => x_mv (v := ab) rfl) ?_
  refine d_q rfl (fun w' H => x_mv (v := I (i : Int)) rfl) ?_
  obtain ⟨aQ, hM⟩ := M.e_gd hM
  refine d_q rfl (fun w' H => x_ari (a := (i : Int)) (b := 1) (r := (i : Int) - 1) rfl rfl rfl (by omega)) ?_
  obtain ⟨aR, hM⟩ := M.e_gd hM
  refine d_q rfl (fun w' H => x_ix (a := ab) (b := I ((i : Int) - 1)) (v := vat ab 1 (Int.toNat ((i : Int) - 1))) rfl rfl (Sl.ix (α := Int) T34.und T34.size ae (by omega) (by omega))) ?_
  refine d_q rfl (fun w' H => x_ld (p := vat ab 1 (Int.toNat ((i : Int) - 1))) (v := I (aa.getD (Int.toNat ((i : Int) - 1)) 0)) rfl (ld_sc Sc3 (At.mono (Int_at ae (i := (i : Int) - 1) (by omega) (by omega)) (aq.at H)))) ?_
  refine d_l rfl ?_
  obtain ⟨aS, aF, hM⟩ := M.e_bind hM
  refine s_callm (f := 149) (fs := [Pz ac]) rfl cf149 [I (aa.getD i 0), I (aa.getD (Int.toNat ((i : Int) - 1)) 0)] rfl (zbp ah (aa.getD i 0) (aa.getD (Int.toNat ((i : Int) - 1)) 0) (ay.app _) az (aA.app _) aF _ (St.give (T := []) H rfl)) ?_
  rintro vq aG ⟨r2, aH, hvq, ax⟩
  subst aH
  subst vq
  try dsimp only at hM
  replace H : St w aG [] R := H.back ax rfl
  clear ax
  refine s_nil ⟨(H.pick [] (by decide) rfl), ?_⟩
  refine d_q rfl (fun w' H => x_not (b := r2) rfl) ?_
  refine d_nil ?_
  refine W.cond (!r2) rfl (fun ak => ?_) (fun ak => ?_)
  ·replace hM := M.e_t hM ak
   refine sQ rfl <| sA (B false) rfl <| s_nil ?_
   refine W.ret ?_
   have aI := M.e_inr hM aj
   subst aI
   replace hM := au
   try dsimp only at hM
   have al := M.e_pure hM
   exact ⟨_, resE_tmp rfl, ⟨false, al, rfl, H⟩⟩
  replace hM := M.e_f hM ak
  refine W.skip <| W.region rfl <| sM (I (i : Int)) rfl <| sR (i : Int) 1 ((i : Int) + 1) rfl rfl rfl (by omega) <| sA (I ((i : Int) + 1)) rfl <| s_nil ?_
  exact ⟨aC, aD, i + 1, _, upds_of _ _ ⟨rfl, rfl, rfl, trivial⟩, M.e_inl hM aj, H⟩
 replace hM := M.e_f hM ag
 simp only [qz1, qz2, qz3, qz4, qz5, qz6, ne_eq, qz7] at ag
 refine W.exit ?_
 have aJ := M.e_inr hM aj
 subst aJ
 replace hM := au
 try dsimp only at hM
 refine sQ rfl <| sM ab rfl ?_
 have aT := (ae).len_le
 refine s_val (x_lenS T34.und rfl ae) <| sC (aa.length : Int) 0 (decide (0 < (aa.length : Int))) rfl rfl rfl <| sA (B (decide (0 < (aa.length : Int)))) rfl <| s_nil ?_
 refine W.ret ?_
 have al := M.e_pure hM
 exact ⟨_, resE_tmp rfl, ⟨(decide (0 < (aa.length : Int))), al, rfl, H⟩⟩

end Go.Proofs.Ytndobgodeicloaa
end
namespace Go.Nm
theorem M.i_scanF {b : Nat -> M (Nat ⊕ (Unit ⊕ Unit))} (n i0 : Nat) (bad : Nat -> Bool) (h0 : ∀ j < i0, bad j = false) (hi0 : i0 <= n) (hb : ∀ i, i0 <= i -> i < n -> (∀ j < i, bad j = false) -> (b i).Ends (if bad i then .inr (.inl ()) else .inl (i + 1))) (he : (∀ j < n, bad j = false) -> (b n).Ends (.inr (.inr ()))) :
    (M.iter b i0).Ends (if (List.range n).any bad then .inl () else .inr ()) := by
  have key : ∀ k i, n = i + k -> i0 <= i -> (∀ j < i, bad j = false) -> (M.iter b i).Ends (if (List.range n).any bad then .inl () else .inr ()) := by
    intro k
    induction k with
    | zero =>
      intro i hi _ hj
      have hn : n = i := by omega
      rw [hn] at he ⊢
      have : (List.range i).any bad = false := List.any_eq_false.2 fun j hj' => by simp [hj j (List.mem_range.1 hj')]
      rw [this]
      exact M.i_stop (he hj)
    | succ k ih =>
      intro i hi hii hj
      have h1 := hb i hii (by omega) hj
      cases hc : bad i with
      | true =>
        rw [hc] at h1
        have : (List.range n).any bad = true := List.any_eq_true.2 ⟨i, List.mem_range.2 (by omega), hc⟩
        rw [this]
        exact M.i_stop h1
      | false =>
        rw [hc] at h1
        refine M.i_next h1 (ih (i + 1) (by omega) (by omega) fun j hj' => ?_)
        by_cases e : j = i
        · rw [e]; exact hc
        · exact hj j (by omega)
  exact key (n - i0) i0 (by omega) (Nat.le_refl _) h0
theorem lineB_at1 {ws : List Work} (l : List Int) : lineB ws l = !((List.range l.length).any fun i => decide (1 <= i) && !((ws.getD (l.getD i 0).toNat default).of.contains (l.getD (i - 1) 0))) := by
  rw [lineB_at]
  cases hl : l.length with
  | zero => rfl
  | succ n =>
    rw [List.range_succ_eq_map, List.any_cons, List.any_map, Nat.add_sub_cancel]
    rfl
end Go.Nm
namespace Go.Proofs.Ytndobgodeicloaa
open Go Go.Nm
variable {ws : List Work}
structure RevOk (ws : List Work) (rv : List Int) : Prop where
  some : rv ≠ []
  asc : rv.Pairwise (· < ·)
  lt : ∀ x ∈ rv, 0 <= x /\ x < (ws.length : Int)
  few : rv.length <= ws.length
theorem RevOk.asked {rv : List Int} (h : RevOk ws rv) (hO : openedE ws = 0) : askedE ws rv = 0 := by rw [asked_list hO]; exact listed_of h.lt h.asc
theorem webOf_ends {i : Int} (h0 : 0 <= i) (h1 : i < ws.length) (x : Int) : (zaB ws i x).Ends ((ws.getD i.toNat default).of.contains x) := by
  unfold zaB
  exact M.i_grd (gA2 h0 h1) M.i_pure
theorem everyInt_ends {s : List Int} {f : Int -> M Bool} {p : Int -> Bool} (hf : ∀ x ∈ s, (f x).Ends (p x)) : (zaG f s).Ends (s.all p) := by
  have key : ∃ r, (zau s (fun x => zaz x f)).Ends r /\ decide (0 <= r) = !(s.all p) := by
    have h := M.i_loopQ (body := zaj s (fun x => zaz x f)) (fun r => match r with | .inl k => 0 <= k /\ s.all p = false | .inr _ => s.all p = true)
      (fun m i => m = s.length - i /\ i <= s.length /\ (s.take i).all p = true) (by
        rintro m i ⟨rfl, hi, ha⟩
        simp only [zaj]
        by_cases e : i < s.length
        · have hp := M.i_bind (hf _ (getD_memN s (by omega : (i : Int) < _) 0)) (k := fun r2 => M.pure (!r2)) M.i_pure
          have hp : (zaz (s.getD i 0) f).Ends _ := hp
          cases hc : p (s.getD i 0) with
          | false =>
            rw [hc] at hp
            exact .inr ⟨.inl (i : Int), M.i_t (by simpa using e) (M.grdD (by omega) (M.i_bind hp M.i_pure)), by omega, List.all_eq_false.2 ⟨_, getD_memN s (by omega : (i : Int) < _) 0, by rw [hc]; decide⟩⟩
          | true =>
            rw [hc] at hp
            exact .inl ⟨i + 1, s.length - (i + 1), by omega, M.i_t (by simpa using e) (M.grdD (by omega) (M.i_bind hp M.i_pure)), rfl, e, by rw [all_take_succ p s e 0, ha, hc]; rfl⟩
        · obtain rfl : i = s.length := by omega
          rw [List.take_length] at ha
          exact .inr ⟨.inr (), M.i_f (by simp) M.i_pure, ha⟩) _ 0 ⟨rfl, Nat.zero_le _, by simp⟩
    obtain ⟨r, h1, h2⟩ := h
    cases r with
    | inl k => exact ⟨k, M.i_bind h1 M.i_pure, by rw [h2.2]; simpa using h2.1⟩
    | inr u => exact ⟨-1, M.i_bind h1 M.i_pure, by dsimp only at h2; rw [h2]; rfl⟩
  obtain ⟨r, h1, h2⟩ := key
  rw [show s.all p = !(decide (0 <= r)) from by rw [h2, Bool.not_not]]
  exact M.i_bind (M.i_bind h1 M.i_pure) M.i_pure
theorem webLeads_ends {l : List Int} (hr : ∀ x ∈ l, 0 <= x /\ x < (ws.length : Int)) (hl : l.length <= 1000000) : (za2 ws l).Ends (lineB ws l && decide (0 < (l.length : Int))) := by
  unfold za2
  by_cases hz : l = []
  · subst hz
    have h0 : (M.iter (zao ws []) 1).Ends (.inr ()) := M.i_stop (by simp only [zao]; exact M.i_f (by simp) M.i_pure)
    exact M.i_bind h0 M.i_pure
  · have hl1 : 1 <= l.length := List.length_pos_iff.2 hz
    have s1 := M.i_scanF (b := zao ws l) l.length 1 (fun i => decide (1 <= i) && !((ws.getD (l.getD i 0).toNat default).of.contains (l.getD (i - 1) 0))) (fun j hj => by rw [decide_eq_false (by omega)]; rfl) hl1 (fun i h1 hi _ => ?_) (fun _ => ?_)
    · refine M.i_bind s1 ?_
      rw [lineB_at1]
      cases (List.range l.length).any fun i => decide (1 <= i) && !((ws.getD (l.getD i 0).toNat default).of.contains (l.getD (i - 1) 0)) <;> exact M.i_pure
    · have hm := hr _ (getD_memN l (by omega : (i : Int) < _) 0)
      simp only [zao, show ((i : Int) - 1).toNat = i - 1 from by omega]
      refine M.i_t (by simpa using hi) (M.grdD (by omega) (M.i_grd (gA2 (by omega) (by omega)) (M.i_grd (gA2 (by omega) (by omega)) (M.i_bind (webOf_ends hm.1 hm.2 _) ?_))))
      rw [decide_eq_true h1, Bool.true_and]
      cases (ws.getD (l.getD i 0).toNat default).of.contains (l.getD (i - 1) 0) <;> exact M.i_pure
    · simp only [zao]
      exact M.i_f (by simp) M.i_pure
end Go.Proofs.Ytndobgodeicloaa
namespace Go.Nm
open Go
section
variable {P : Program} {w : World} {σ : Env} {d : Nat} {ty : TypeId} {pos : String} {af : Array Edge} {g : Option (Nat × Bool)}
theorem sl_none {α : Type} [Elt α] {C : Cells} {v : Value} {l : List α} (h : Sl C v l) (hn : l = [] -> v = .slice none 0 0) : ∃ a n c, v = .slice a n c /\ a.isNone = l.isEmpty := by
  cases l with
  | nil => exact ⟨none, 0, 0, hn rfl, rfl⟩
  | cons x l =>
    obtain ⟨a, c, hv, _, _, hh⟩ := h.ex
    obtain ⟨b, o, cs, rfl, _⟩ := hh 0 x rfl
    exact ⟨_, _, _, hv, rfl⟩
theorem x_eqnil {α : Type} [Elt α] {t e yt : TypeId} {x y : Operand} {C : Cells} {v : Value} {l : List α} (ht : P.underlying t = some (.slice e)) (hx : ev σ x = v) (hy : ev σ y = .slice none 0 0) (h : Sl C v l) (hn : l = [] -> v = .slice none 0 0) :
    (execOp (ev σ) ⟨some d, .binOp .eql t x y yt, ty, pos, af, g⟩).run P w = .ok (.value (.bool l.isEmpty)) w := by
  obtain ⟨a, n, c, rfl, ha⟩ := sl_none h hn
  simp [execOp, hx, hy, eqGuard, binOp, run_equal_slice_nil w t e a n c ht, ha]
theorem x_nenil {α : Type} [Elt α] {t e yt : TypeId} {x y : Operand} {C : Cells} {v : Value} {l : List α} (ht : P.underlying t = some (.slice e)) (hx : ev σ x = v) (hy : ev σ y = .slice none 0 0) (h : Sl C v l) (hn : l = [] -> v = .slice none 0 0) :
    (execOp (ev σ) ⟨some d, .binOp .neq t x y yt, ty, pos, af, g⟩).run P w = .ok (.value (.bool (!l.isEmpty))) w := by
  obtain ⟨a, n, c, rfl, ha⟩ := sl_none h hn
  simp [execOp, hx, hy, eqGuard, binOp, run_equal_slice_nil w t e a n c ht, ha]
end
end Go.Nm
section
set_option maxRecDepth 100000
set_option maxHeartbeats 16000000
namespace Go.Proofs.Ytndobgodeicloaa
open Go Go.Nm
def zbv (aa : List Work) (enters : Int -> M Bool) : M (Int -> Option Bool) :=
  M.pure (fun _ => none)
theorem zbT {R : List Chunk} {aa : Nat} {ae : Cells} {ag : Value} {ab : Value} (ah : List Work) (enters : Int -> M Bool) (al : Reads R ae) (am : Sl ae ag ah) (ao : Has R (cBlk aa [ag] 187)) (aj : FnM Try.prog R ab enters) {r : (Int -> Option Bool)} (hM : (zbv ah enters).Ends r) (w : World) (H : St w w [] R) : Ret Try.prog 108 #[Pz aa, ab] w fun v w' => ∃ (y0 : Int -> Option Bool) (nb0 : Nat) (nb1 : Nat), y0 = r /\ v = Pz nb0 /\ St w w' [cBlk nb0 [Pz aa, ab, .map (some nb1)] 211, cMap I B nb1 y0] R := by
 refine ret_of_W Try.func108 rfl rfl rfl ?_
 refine sQ rfl <| sA (.pointer none) rfl <| s_nil <| sQ rfl <| sM (Pz aa) rfl <| sM ab rfl ?_
 refine t_mkmap (κ := Int) (ν := Bool) I B H ?_
 intro ac ap H
 refine s_val (x_bld (ps := [(0, Pz aa), (1, ab), (2, .map (some ac))]) (zs := [.pointer none, .nilFunc, .map none]) (L' := [Pz aa, ab, .map (some ac)]) rfl Try.underlying211 Al211 rfl (Bd211 Try.underlying211) (.cons (cs := [Pz aa]) rfl rfl rfl rfl rfl <| .cons (cs := [ab]) (FnM.cells aj) rfl rfl rfl rfl <| .cons (cs := [.map (some ac)]) rfl rfl rfl rfl rfl <| .nil)) ?_
 refine t_box (v := .agg #[Pz aa, ab, .map (some ac)]) (cs := [Pz aa, ab, .map (some ac)]) H rfl rfl ?_
 intro ai aq H
 refine sA (Pz ai) rfl <| s_nil ?_
 refine W.ret ?_
 have ak := M.e_pure hM
 exact ⟨_, resE_tmp rfl, ⟨(fun _ => none), ai, ac, ak, rfl, H⟩⟩

def zal (ae : List Work) (s_enters : Int -> M Bool) (ac : Int) (aa : Int) (ag : ((List Work) × (Int -> M Bool) × (Int -> Option Bool) × Int × Int) -> M ((List Int) × (Int -> Option Bool))) : (Int -> Option Bool) -> Int -> M ((Int -> Option Bool) ⊕ ((List Int) × (Int -> Option Bool))) := fun mp x =>
  bif ((!((mp (x : Int)).getD false)) && (x != aa)) then (
  M.bind (s_enters x) fun r8 =>
  bif (((mp (x : Int)).getD false) || ((x != aa) && (!r8))) then (
  M.pure (.inl mp))
  else (
  M.bind (ag (ae, s_enters, mp, x, aa)) fun (r4, ab) =>
  bif !r4.isEmpty then (
  M.grd (decide ((([(ac : Int)]).length + r4.length) * 8 <= 140737488355328)) <|
  M.pure (.inr (([(ac : Int)]) ++ r4, ab)))
  else (
  M.pure (.inl ab))))
  else (
  bif (((mp (x : Int)).getD false) || ((x != aa) && (!false))) then (
  M.pure (.inl mp))
  else (
  M.bind (ag (ae, s_enters, mp, x, aa)) fun (r4, ab) =>
  bif !r4.isEmpty then (
  M.grd (decide ((([(ac : Int)]).length + r4.length) * 8 <= 140737488355328)) <|
  M.pure (.inr (([(ac : Int)]) ++ r4, ab)))
  else (
  M.pure (.inl ab))))
def zab (ag : ((List Work) × (Int -> M Bool) × (Int -> Option Bool) × Int × Int) -> M ((List Int) × (Int -> Option Bool))) : ((List Work) × (Int -> M Bool) × (Int -> Option Bool) × Int × Int) -> M ((List Int) × (Int -> Option Bool)) := fun (ab, s_enters, ae, aa, ac) =>
  bif aa == ac then (
  M.pure (([(ac : Int)]), ae))
  else (
  M.bind (zbd ab aa) fun ah =>
  M.bind (zam (M.yl (zal ab s_enters aa ac ag)) (.inl (updF ae (aa : Int) true)) ab ah) fun x_ => match x_ with
  | .inl mp => (
  M.pure (([]), mp))
  | .inr (l, ai) => (
  M.grd (decide (0 < l.length)) <|
  M.pure (l, ai)))
theorem zbz : M.Mon zab := by
  intro n f g h a
  obtain ⟨aa, s_enters, ab, ac, ae⟩ := a
  simp only [zab, zal]
  repeat' (first | exact M.le_same _ _ | exact h _ | refine M.le_grd ?_ | refine M.le_if ?_ ?_ | refine M.le_bind ?_ (fun x => ?_) | refine M.le_opt ?_ | refine M.le_iter (fun x => ?_) _ | refine zbV (M.le_yl (fun s_ a_ => ?_)) _ _ _ | (rename_i x; cases x) | (rename_i x; obtain ⟨_, _⟩ := x))
def zbn (aa : List Work) (s_enters : Int -> M Bool) (ab : Int -> Option Bool) (ac : Int) (ae : Int) : M ((List Int) × (Int -> Option Bool)) := M.fix zab zbz (aa, s_enters, ab, ac, ae)
theorem zci (n_ : Nat) : ∀ {R : List Chunk} {ac : Nat} {ak : Nat} {aP : Cells} {aQ : Value} {aJ : Value} {ae : Nat} (ax : List Work) (s_enters : Int -> M Bool) (ap : Int -> Option Bool) (ab : Int) (aa : Int) (aE : Reads R aP) (aH : Sl aP aQ ax) (aF : Has R (cBlk ak [aQ] 187)) (aI : FnM Try.prog R aJ s_enters) (az : Has R (cBlk ac [Pz ak, aJ, .map (some ae)] 211)) {r : ((List Int) × (Int -> Option Bool))} (hM : (M.fixN zab n_ (ax, s_enters, ap, ab, aa)).Ends r) (w : World) (H : St w w [cMap I B ae ap] R), Ret Try.prog 150 #[Pz ac, I ab, I aa] w fun v w' => ∃ (y0 : List Int) (y1 : Int -> Option Bool) (u0 : Value), (y0, y1) = r /\ v = u0 /\ St w w' [cOwn (α := Int) 3 u0 y0, cMap I B ae y1] R /\ (y0 = [] -> u0 = .slice none 0 0) := by
  induction n_ with
  | zero => intro R ac ak aP aQ aJ ae ax s_enters ap ab aa aE aH aF aI az r hM w H; exact (M.e_fail hM).elim
  | succ n_ ih =>
    intro R ac ak aP aQ aJ ae ax s_enters ap ab aa aE aH aF aI az r hM w H
    refine ret_of_WD Try.func150 rfl rfl rfl ?_
    replace H : St w w [cMk ([]), cMap I B ae ap] R := H.mk0
    have bD := aH.len_le
    simp only [M.fixN, zab] at hM
    refine WD.seq ?_
    refine WD.of ?_
    refine W.region rfl ?_
    refine t_box (v := Pz ac) (cs := [Pz ac]) H rfl rfl ?_
    intro ah bE H
    refine t_box (v := I ab) (cs := [I ab]) H rfl rfl ?_
    intro ai bF H
    refine t_box (v := I aa) (cs := [I aa]) H rfl rfl ?_
    intro aj bG H
    refine t_alloc (cs := [.slice none 0 0]) H Al34 rfl ?_
    intro ag bH H
    refine s_nil ?_
    refine WD.seq ?_
    refine WD.seq ?_
    refine WD.of ?_
    refine W.region rfl <| s_val (x_ld (p := Pz ai) (v := I ab) rfl (ldb_sc Sc3 (H.blk (k := 2) rfl) rfl)) <| s_val (x_ld (p := Pz aj) (v := I aa) rfl (ldb_sc Sc3 (H.blk (k := 1) rfl) rfl)) <| sC ab aa (ab == aa) rfl rfl rfl <| s_nil ?_
    refine WD.cond (ab == aa) rfl (fun aK => ?_) (fun aK => ?_)
    ·replace hM := M.e_t hM aK
     simp only [qz1, qz2, qz3, qz4, qz5, qz6, ne_eq, qz7] at aK
     refine WD.seq ?_
     refine WD.of ?_
     refine W.region rfl <| s_val (x_ld (p := Pz aj) (v := I aa) rfl (ldb_sc Sc3 (H.blk (k := 1) rfl) rfl)) ?_
     refine t_bs (α := Int) T34 [I aa] [(aa : Int)] H rfl (.cons rfl (Flat.rep_enc _ (aa : Int)) <| .nil) rfl rfl rfl ?_
     intro aA bI H
     refine t_st (k := 1) (b := ag) (off := 0) (cs := [.slice none 0 0]) (vs := [aA]) (cs' := [aA]) (v := aA) (L' := [cOwn (α := Int) 3 aA ([(aa : Int)]), cBlk ag [aA] 34, cBlk aj [I aa] 3, cBlk ai [I ab] 3, cBlk ah [Pz ac] 160, cMk ([]), cMap I B ae ap]) H rfl rfl rfl Sz34 (Sl.cells (ownSl (H.get (k := 0) rfl))) rfl rfl (by simp only [List.all_cons, List.all_nil, Bool.true_and, Bool.and_true, Sl.oc (ownSl (H.get (k := 0) rfl))]; try rfl) rfl rfl ?_
     intro bJ H
     refine s_nil ?_
     refine WD.of ?_
     refine W.ret ?_
     refine bodyD_r (H.pick [5, 0, 1, 2, 3, 4, 6] (by decide) rfl) ?_
     intro a7 H
     replace H : St w a7 [cOwn (α := Int) 3 aA ([(aa : Int)]), cBlk ag [aA] 34, cBlk aj [I aa] 3, cBlk ai [I ab] 3, cBlk ah [Pz ac] 160, cMap I B ae ap] R := H
     have a8 := (H.blk (k := 1) rfl)
     have aL := M.e_pure hM
     exact ⟨_, (resE_of1 (v := aA) rfl (.cell (v := aA) rfl (run_loadVar_sc Sc34 a8 rfl) <| .nil)), ⟨([(aa : Int)]), ap, aA, aL, rfl, (H.pick [0, 5] (by decide) rfl), (fun h_ => absurd h_ (by simp))⟩⟩
    replace hM := M.e_f hM aK
    simp only [qz1, qz2, qz3, qz4, qz5, qz6, ne_eq, qz7] at aK
    refine WD.of ?_
    refine W.skip ?_
    refine WD.seq ?_
    refine WD.of ?_
    refine W.draw (fun W => St w W [cBlk ag [.slice none 0 0] 34, cBlk aj [I aa] 3, cBlk ai [I ab] 3, cBlk ah [Pz ac] 160, cMk ([])] R) [(0, true), (1, true), (2, true), (3, true), (4, true), (5, false)] mixed (by decide +kernel) rfl ?_
    intro a9 aM
    replace H : St w a9 [cBlk ag [.slice none 0 0] 34, cBlk aj [I aa] 3, cBlk ai [I ab] 3, cBlk ah [Pz ac] 160, cMk ([]), cMap I B ae ap] R := H.ext aM
    clear aM
    refine ⟨(H.pick [0, 1, 2, 3, 4] (by decide) rfl), ?_⟩
    refine d_q rfl (fun w' H => x_ld (p := Pz ah) (v := Pz ac) rfl (ldb_sc Sc160 (H.blk (k := 3) rfl) rfl)) ?_
    refine d_q rfl (fun w' H => x_nc (a := ⟨ac, 0, none⟩) rfl) ?_
    refine d_q rfl (fun w' H => x_fa (a := Pz ac) (v := Oz ac 2) rfl (fa_blk (o := 0) Fd211_2 Sz178)) ?_
    refine d_q rfl (fun w' H => x_ld (p := Oz ac 2) (v := .map (some ae)) rfl (ldb_sc Sc178 (az.blk H) rfl)) ?_
    refine d_q rfl (fun w' H => x_ld (p := Pz ai) (v := I ab) rfl (ldb_sc Sc3 (H.blk (k := 2) rfl) rfl)) ?_
    refine d_l rfl ?_
    refine t_mapu (i := 5) (kenc := I) (venc := B) (f := ap) (k := (ab : Int)) (v := true) (L' := [cBlk ag [.slice none 0 0] 34, cBlk aj [I aa] 3, cBlk ai [I ab] 3, cBlk ah [Pz ac] 160, cMk ([]), cMap I B ae (updF ap (ab : Int) true)]) keyIntB Try.underlying178 H rfl rfl rfl rfl rfl ?_
    intro bK H
    refine s_nil ⟨(H.pick [0, 1, 2, 3, 4] (by decide) rfl), ?_⟩
    refine d_nil ?_
    refine WD.seq ?_
    refine WD.seq ?_
    refine WD.of ?_
    refine W.draw (fun W => St w W [cBlk ag [.slice none 0 0] 34, cBlk aj [I aa] 3, cBlk ai [I ab] 3, cBlk ah [Pz ac] 160, cMk ([]), cMap I B ae (updF ap (ab : Int) true)] R) [(0, true), (1, true), (2, true), (3, true), (4, true), (5, false)] mixed (by decide +kernel) rfl ?_
    intro ba aM
    replace H : St w ba [cBlk ag [.slice none 0 0] 34, cBlk aj [I aa] 3, cBlk ai [I ab] 3, cBlk ah [Pz ac] 160, cMk ([]), cMap I B ae (updF ap (ab : Int) true)] R := H.ext aM
    clear aM
    refine ⟨(H.pick [0, 1, 2, 3, 4, 5] (by decide) rfl), ?_⟩
    refine d_q rfl (fun w' H => x_ld (p := Pz ah) (v := Pz ac) rfl (ldb_sc Sc160 (H.blk (k := 3) rfl) rfl)) ?_
    refine d_q rfl (fun w' H => x_nc (a := ⟨ac, 0, none⟩) rfl) ?_
    refine d_q rfl (fun w' H => x_fa (a := Pz ac) (v := Pz ac) rfl (fa_blk (o := 0) Fd211_0 Sz127)) ?_
    refine d_q rfl (fun w' H => x_ld (p := Pz ac) (v := Pz ak) rfl (ldb_sc Sc127 (az.blk H) rfl)) ?_
    refine d_q rfl (fun w' H => x_ld (p := Pz ai) (v := I ab) rfl (ldb_sc Sc3 (H.blk (k := 2) rfl) rfl)) ?_
    refine d_l rfl ?_
    obtain ⟨bL, bb, hM⟩ := M.e_bind hM
    refine s_call cf98 [Pz ak, I ab] rfl (zbM ax ab (aE.app _) aH (aF.app _) bb _ (St.give (T := [cBlk ag [.slice none 0 0] 34, cBlk aj [I aa] 3, cBlk ai [I ab] 3, cBlk ah [Pz ac] 160, cMk ([]), cMap I B ae (updF ap (ab : Int) true)]) H rfl)) ?_
    rintro vq bc ⟨al, am, ao, bf, hvq, ay⟩
    subst bf
    subst vq
    try dsimp only at hM
    replace H : St w bc [cBlk am [Pz ak] 127, cBlk ao [I al] 3, cBlk ag [.slice none 0 0] 34, cBlk aj [I aa] 3, cBlk ai [I ab] 3, cBlk ah [Pz ac] 160, cMk ([]), cMap I B ae (updF ap (ab : Int) true)] R := H.back ay rfl
    clear ay
    refine s_nil ⟨(H.pick [2, 3, 4, 5, 6, 7] (by decide) rfl), ?_⟩
    refine d_nil ?_
    refine WD.block ?_
    obtain ⟨bM, bg, hM⟩ := M.e_bind hM
    refine WD.range (L := [cBlk ag [.slice none 0 0] 34, cMap I B ae (updF ap (ab : Int) true), cBlk am [Pz ak] 127, cBlk ao [I al] 3, cBlk aj [I aa] 3, cBlk ai [I ab] 3, cBlk ah [Pz ac] 160]) [Pz am, Pz ao] (H.pick [6, 2, 7, 0, 1, 3, 4, 5] (by decide) rfl) rfl cf148 ?_
    intro aN aq aR bh aT H
    have hYC : YieldC Try.prog ([cMk (aq :: ([])), cBlk am [Pz ak] 127, cBlk ao [I al] 3, cBlk aj [I aa] 3, cBlk ai [I ab] 3, cBlk ah [Pz ac] 160] ++ R) arI (yJ aN aR (fun mp aG => aG = [cBlk ag [.slice none 0 0] 34, cMap I B ae mp]) (fun (l, aB) aG => ∃ (au : Value), aG = [cBlk ag [au] 34, cMap I B ae aB, cOwn (α := Int) 3 au l]) (fun _ => .ret)) (.func (.yield aN) #[] #[]) (M.yl (zal ax s_enters ab aa (M.fixN zab n_))) := by
     refine YieldC.mk aT (fun mp aG => aG = [cBlk ag [.slice none 0 0] 34, cMap I B ae mp]) (fun (l, aB) aG => ∃ (au : Value), aG = [cBlk ag [au] 34, cMap I B ae aB, cOwn (α := Int) 3 au l]) (fun _ => .ret) (zal ax s_enters ab aa (M.fixN zab n_)) (by rintro mp _ h_; obtain ⟨rfl⟩ := h_; rfl) (by rintro ⟨l, aB⟩ _ h_; (obtain ⟨_, rfl⟩ := h_; rfl)) rfl (arI_len rfl) ?_
     intro C_ bN x W_ bi
     obtain rfl := bi
     refine W.region rfl <| sA (I x) rfl <| s_nil ?_
     refine ⟨rfl, rfl, ?_⟩
     intro w R aS aG s_ r bj hM H
     skip
     obtain ⟨mp, bk⟩ : ∃ y_, y_ = s_ := ⟨_, rfl⟩
     subst bk
     obtain ⟨rfl⟩ := bj
     replace aE := aE.sub aS
     replace aF := aF.sub aS
     replace aI := aI.sub aS
     replace az := az.sub aS
     replace hM : (zal ax s_enters ab aa (M.fixN zab n_) mp x).Ends r := hM
     simp only [zal] at hM
     replace H : St w w [cBlk ag [.slice none 0 0] 34, cMap I B ae mp, cBlk am [Pz ak] 127, cBlk ao [I al] 3, cBlk aj [I aa] 3, cBlk ai [I ab] 3, cBlk ah [Pz ac] 160, cMk (aq :: ([]))] R := H.pick [0, 1, 3, 4, 5, 6, 7, 2] (by decide) rfl
     refine W.block <| W.seq <| sQ rfl <| s_val (x_ld (p := Pz ah) (v := Pz ac) rfl (ldb_sc Sc160 (H.blk (k := 6) rfl) rfl)) <| s_val (x_nc (a := ⟨ac, 0, none⟩) rfl) <| s_val (x_fa (a := Pz ac) (v := Oz ac 2) rfl (fa_blk (o := 0) Fd211_2 Sz178)) <| s_val (x_ld (p := Oz ac 2) (v := .map (some ae)) rfl (ldb_sc Sc178 (az.blk H) rfl)) <| sM (I x) rfl <| s_val (q_look (kenc := I) (venc := B) (f := mp) (k := (x : Int)) (v := B ((mp (x : Int)).getD false)) keyIntB Try.underlying178 Al4 rfl rfl (H.get (k := 1) rfl) false (by rw [if_neg (by decide), bool_val])) <| sM (B ((mp (x : Int)).getD false)) rfl <| g_val (!((mp (x : Int)).getD false)) (gy_f rfl) (fun hg => x_mv (v := I x) rfl) ?_
     refine g_val (!((mp (x : Int)).getD false)) (gy_f rfl) (fun hg => x_ld (p := Pz aj) (v := I aa) rfl (ldb_sc Sc3 (H.blk (k := 4) rfl) rfl)) <| g_val (!((mp (x : Int)).getD false)) (gy_f rfl) (fun hg => x_cmp (kd := .i64) (a := x) (b := aa) (r := x != aa) (gd_of (c := !((mp (x : Int)).getD false)) hg (I x)) (gd_of (c := !((mp (x : Int)).getD false)) hg (I aa)) rfl) <| g_val (!((mp (x : Int)).getD false)) (gy_f rfl) (fun hg => x_mv (v := B (x != aa)) (gd_of (c := !((mp (x : Int)).getD false)) hg (B (x != aa)))) <| g_val ((!((mp (x : Int)).getD false)) && (x != aa)) (gy_gt rfl rfl) (fun hg => x_ld (p := Pz ah) (v := Pz ac) rfl (ldb_sc Sc160 (H.blk (k := 6) rfl) rfl)) <| g_val ((!((mp (x : Int)).getD false)) && (x != aa)) (gy_gt rfl rfl) (fun hg => x_nc (a := ⟨ac, 0, none⟩) (gd_of (c := ((!((mp (x : Int)).getD false)) && (x != aa))) hg (Pz ac))) <| g_val ((!((mp (x : Int)).getD false)) && (x != aa)) (gy_gt rfl rfl) (fun hg => x_fa (a := Pz ac) (v := Oz ac 1) (gd_of (c := ((!((mp (x : Int)).getD false)) && (x != aa))) hg (Pz ac)) (fa_blk (o := 0) Fd211_1 Sz75)) <| g_val ((!((mp (x : Int)).getD false)) && (x != aa)) (gy_gt rfl rfl) (fun hg => x_ld (p := Oz ac 1) (v := aJ) (gd_of (c := ((!((mp (x : Int)).getD false)) && (x != aa))) hg (Oz ac 1)) (ldb_sc Sc75 (az.blk H) rfl)) <| g_val ((!((mp (x : Int)).getD false)) && (x != aa)) (gy_gt rfl rfl) (fun hg => x_mv (v := I x) rfl) ?_
     refine g_splitV ((!((mp (x : Int)).getD false)) && (x != aa)) (B false) (gy_gt rfl rfl) (fun aO => ?_) (fun aO => ?_)
     ·replace hM := M.e_t hM aO
      obtain ⟨r9, bl, hM⟩ := M.e_bind hM
      refine t_callM H aI (gd_of (c := ((!((mp (x : Int)).getD false)) && (x != aa))) aO (aJ)) (gd_of (c := ((!((mp (x : Int)).getD false)) && (x != aa))) aO (I x)) x Reads.none (Arg.mkI (fun _ => none) _) bl ?_
      intro bO H
      refine g_val ((!((mp (x : Int)).getD false)) && (x != aa)) (gy_gt rfl rfl) (fun hg => x_not (b := r9) rfl) <| g_val (!((mp (x : Int)).getD false)) (gy_f rfl) (fun hg => x_pand (b := x != aa) (r := !r9) (gd_of (c := !((mp (x : Int)).getD false)) hg (B (x != aa))) (fun hb => gd_of (c := ((!((mp (x : Int)).getD false)) && (x != aa))) (by first | exact hb | (rw [hb]; rfl) | simp_all) (B (!r9))) rfl) <| s_val (x_por (b := (mp (x : Int)).getD false) (r := ((x != aa) && (!r9))) rfl rfl (fun hb => gd_of (c := !((mp (x : Int)).getD false)) (by first | exact hb | (rw [hb]; rfl) | simp_all) (B ((x != aa) && (!r9))))) <| s_nil ?_
      refine W.cond (((mp (x : Int)).getD false) || ((x != aa) && (!r9))) rfl (fun aU => ?_) (fun aU => ?_)
      ·replace hM := M.e_t hM aU
       refine W.exit ?_
       exact ⟨mp, [cBlk ag [.slice none 0 0] 34, cMap I B ae mp], (M.e_pure hM).symm, rfl, H.pick [0, 1, 7, 2, 3, 4, 5, 6] (by decide) rfl⟩
      replace hM := M.e_f hM aU
      refine W.skip <| sQ rfl <| s_val (x_ld (p := Pz ah) (v := Pz ac) rfl (ldb_sc Sc160 (H.blk (k := 6) rfl) rfl)) <| sM (I x) rfl <| s_val (x_ld (p := Pz aj) (v := I aa) rfl (ldb_sc Sc3 (H.blk (k := 4) rfl) rfl)) ?_
      obtain ⟨bP, bm, hM⟩ := M.e_bind hM
      refine s_call cf150 [Pz ac, I x, I aa] rfl (ih ax s_enters mp x aa (aE.app _) aH (aF.app _) (aI.app _) (az.app _) bm _ (St.give (L := [cMap I B ae mp, cBlk ag [.slice none 0 0] 34, cBlk am [Pz ak] 127, cBlk ao [I al] 3, cBlk aj [I aa] 3, cBlk ai [I ab] 3, cBlk ah [Pz ac] 160, cMk (aq :: ([]))]) (A := [cMap I B ae mp]) (T := [cBlk ag [.slice none 0 0] 34, cBlk am [Pz ak] 127, cBlk ao [I al] 3, cBlk aj [I aa] 3, cBlk ai [I ab] 3, cBlk ah [Pz ac] 160, cMk (aq :: ([]))]) (H.pick [1, 0, 2, 3, 4, 5, 6, 7] (by decide) rfl) rfl)) ?_
      rintro vq bn ⟨r4, av, aw, bo, hvq, ay, bp⟩
      subst bo
      subst vq
      try dsimp only at hM
      replace H : St w bn [cOwn (α := Int) 3 aw r4, cMap I B ae av, cBlk ag [.slice none 0 0] 34, cBlk am [Pz ak] 127, cBlk ao [I al] 3, cBlk aj [I aa] 3, cBlk ai [I ab] 3, cBlk ah [Pz ac] 160, cMk (aq :: ([]))] R := H.pick [1, 0, 2, 3, 4, 5, 6, 7] (by decide) rfl |>.back ay rfl
      clear ay
      refine sA aw rfl <| s_nil <| sQ rfl <| sM aw rfl <| s_val (x_nenil (α := Int) T34.und rfl rfl (ownSl (H.get (k := 0) rfl)) bp) <| s_nil ?_
      refine W.cond (!r4.isEmpty) rfl (fun aV => ?_) (fun aV => ?_)
      ·replace hM := M.e_t hM aV
       refine sQ rfl <| s_val (x_ld (p := Pz ai) (v := I ab) rfl (ldb_sc Sc3 (H.blk (k := 6) rfl) rfl)) ?_
       refine t_bs (α := Int) T34 [I ab] [(ab : Int)] H rfl (.cons rfl (Flat.rep_enc _ (ab : Int)) <| .nil) rfl rfl rfl ?_
       intro bQ bR H
       refine sM aw rfl ?_
       obtain ⟨bS, hM⟩ := M.e_gd hM
       refine t_app (α := Int) (k := 0) (l := [(ab : Int)]) (l2 := r4) (l' := ([(ab : Int)]) ++ r4) (vy := aw) T34 rfl H rfl rfl rfl (ownSl (H.get (k := 1) rfl)) (ownLe _ (H.get (k := 1) rfl)) (rfl) (by first | omega | (simp only [List.length_nil] at *; omega)) ?_
       intro aC bq H
       replace H : St w bq [cOwn (α := Int) 3 aC (([(ab : Int)]) ++ r4), cOwn (α := Int) 3 aw r4, cMap I B ae av, cBlk ag [.slice none 0 0] 34, cBlk am [Pz ak] 127, cBlk ao [I al] 3, cBlk aj [I aa] 3, cBlk ai [I ab] 3, cBlk ah [Pz ac] 160, cMk (aq :: ([]))] R := H
       refine t_st (k := 3) (b := ag) (off := 0) (cs := [.slice none 0 0]) (vs := [aC]) (cs' := [aC]) (v := aC) (L' := [cOwn (α := Int) 3 aC (([(ab : Int)]) ++ r4), cOwn (α := Int) 3 aw r4, cMap I B ae av, cBlk ag [aC] 34, cBlk am [Pz ak] 127, cBlk ao [I al] 3, cBlk aj [I aa] 3, cBlk ai [I ab] 3, cBlk ah [Pz ac] 160, cMk (aq :: ([]))]) H rfl rfl rfl Sz34 (Sl.cells (ownSl (H.get (k := 0) rfl))) rfl rfl (by simp only [List.all_cons, List.all_nil, Bool.true_and, Bool.and_true, Sl.oc (ownSl (H.get (k := 0) rfl))]; try rfl) rfl rfl ?_
       intro bT H
       refine s_nil ?_
       refine W.ret ?_
       exact ⟨(([(ab : Int)]) ++ r4, av), [cBlk ag [aC] 34, cMap I B ae av, cOwn (α := Int) 3 aC (([(ab : Int)]) ++ r4)], (M.e_pure hM).symm, ⟨aC, rfl⟩, H.pick [3, 2, 0, 9, 4, 5, 6, 7, 8] (by decide) rfl, rfl⟩
      replace hM := M.e_f hM aV
      refine W.skip ?_
      exact ⟨av, [cBlk ag [.slice none 0 0] 34, cMap I B ae av], (M.e_pure hM).symm, rfl, H.pick [2, 1, 8, 3, 4, 5, 6, 7] (by decide) rfl⟩
     replace hM := M.e_f hM aO
     refine g_val ((!((mp (x : Int)).getD false)) && (x != aa)) (gy_gt rfl rfl) (fun hg => x_not (b := false) (gd_of (c := ((!((mp (x : Int)).getD false)) && (x != aa))) hg (B false))) <| g_val (!((mp (x : Int)).getD false)) (gy_f rfl) (fun hg => x_pand (b := x != aa) (r := !false) (gd_of (c := !((mp (x : Int)).getD false)) hg (B (x != aa))) (fun hb => gd_of (c := ((!((mp (x : Int)).getD false)) && (x != aa))) (by first | exact hb | (rw [hb]; rfl) | simp_all) (B (!false))) rfl) <| s_val (x_por (b := (mp (x : Int)).getD false) (r := ((x != aa) && (!false))) rfl rfl (fun hb => gd_of (c := !((mp (x : Int)).getD false)) (by first | exact hb | (rw [hb]; rfl) | simp_all) (B ((x != aa) && (!false))))) <| s_nil ?_
     refine W.cond (((mp (x : Int)).getD false) || ((x != aa) && (!false))) rfl (fun aW => ?_) (fun aW => ?_)
     ·replace hM := M.e_t hM aW
      refine W.exit ?_
      exact ⟨mp, [cBlk ag [.slice none 0 0] 34, cMap I B ae mp], (M.e_pure hM).symm, rfl, H.pick [0, 1, 7, 2, 3, 4, 5, 6] (by decide) rfl⟩
     replace hM := M.e_f hM aW
     refine W.skip <| sQ rfl <| s_val (x_ld (p := Pz ah) (v := Pz ac) rfl (ldb_sc Sc160 (H.blk (k := 6) rfl) rfl)) <| sM (I x) rfl <| s_val (x_ld (p := Pz aj) (v := I aa) rfl (ldb_sc Sc3 (H.blk (k := 4) rfl) rfl)) ?_
     obtain ⟨bU, br, hM⟩ := M.e_bind hM
     refine s_call cf150 [Pz ac, I x, I aa] rfl (ih ax s_enters mp x aa (aE.app _) aH (aF.app _) (aI.app _) (az.app _) br _ (St.give (L := [cMap I B ae mp, cBlk ag [.slice none 0 0] 34, cBlk am [Pz ak] 127, cBlk ao [I al] 3, cBlk aj [I aa] 3, cBlk ai [I ab] 3, cBlk ah [Pz ac] 160, cMk (aq :: ([]))]) (A := [cMap I B ae mp]) (T := [cBlk ag [.slice none 0 0] 34, cBlk am [Pz ak] 127, cBlk ao [I al] 3, cBlk aj [I aa] 3, cBlk ai [I ab] 3, cBlk ah [Pz ac] 160, cMk (aq :: ([]))]) (H.pick [1, 0, 2, 3, 4, 5, 6, 7] (by decide) rfl) rfl)) ?_
     rintro vq bt ⟨r4, av, aw, bu, hvq, ay, bv⟩
     subst bu
     subst vq
     try dsimp only at hM
     replace H : St w bt [cOwn (α := Int) 3 aw r4, cMap I B ae av, cBlk ag [.slice none 0 0] 34, cBlk am [Pz ak] 127, cBlk ao [I al] 3, cBlk aj [I aa] 3, cBlk ai [I ab] 3, cBlk ah [Pz ac] 160, cMk (aq :: ([]))] R := H.pick [1, 0, 2, 3, 4, 5, 6, 7] (by decide) rfl |>.back ay rfl
     clear ay
     refine sA aw rfl <| s_nil <| sQ rfl <| sM aw rfl <| s_val (x_nenil (α := Int) T34.und rfl rfl (ownSl (H.get (k := 0) rfl)) bv) <| s_nil ?_
     refine W.cond (!r4.isEmpty) rfl (fun aX => ?_) (fun aX => ?_)
     ·replace hM := M.e_t hM aX
      refine sQ rfl <| s_val (x_ld (p := Pz ai) (v := I ab) rfl (ldb_sc Sc3 (H.blk (k := 6) rfl) rfl)) ?_
      refine t_bs (α := Int) T34 [I ab] [(ab : Int)] H rfl (.cons rfl (Flat.rep_enc _ (ab : Int)) <| .nil) rfl rfl rfl ?_
      intro bV bW H
      refine sM aw rfl ?_
      obtain ⟨bX, hM⟩ := M.e_gd hM
      refine t_app (α := Int) (k := 0) (l := [(ab : Int)]) (l2 := r4) (l' := ([(ab : Int)]) ++ r4) (vy := aw) T34 rfl H rfl rfl rfl (ownSl (H.get (k := 1) rfl)) (ownLe _ (H.get (k := 1) rfl)) (rfl) (by first | omega | (simp only [List.length_nil] at *; omega)) ?_
      intro aD bw H
      replace H : St w bw [cOwn (α := Int) 3 aD (([(ab : Int)]) ++ r4), cOwn (α := Int) 3 aw r4, cMap I B ae av, cBlk ag [.slice none 0 0] 34, cBlk am [Pz ak] 127, cBlk ao [I al] 3, cBlk aj [I aa] 3, cBlk ai [I ab] 3, cBlk ah [Pz ac] 160, cMk (aq :: ([]))] R := H
      refine t_st (k := 3) (b := ag) (off := 0) (cs := [.slice none 0 0]) (vs := [aD]) (cs' := [aD]) (v := aD) (L' := [cOwn (α := Int) 3 aD (([(ab : Int)]) ++ r4), cOwn (α := Int) 3 aw r4, cMap I B ae av, cBlk ag [aD] 34, cBlk am [Pz ak] 127, cBlk ao [I al] 3, cBlk aj [I aa] 3, cBlk ai [I ab] 3, cBlk ah [Pz ac] 160, cMk (aq :: ([]))]) H rfl rfl rfl Sz34 (Sl.cells (ownSl (H.get (k := 0) rfl))) rfl rfl (by simp only [List.all_cons, List.all_nil, Bool.true_and, Bool.and_true, Sl.oc (ownSl (H.get (k := 0) rfl))]; try rfl) rfl rfl ?_
      intro bY H
      refine s_nil ?_
      refine W.ret ?_
      exact ⟨(([(ab : Int)]) ++ r4, av), [cBlk ag [aD] 34, cMap I B ae av, cOwn (α := Int) 3 aD (([(ab : Int)]) ++ r4)], (M.e_pure hM).symm, ⟨aD, rfl⟩, H.pick [3, 2, 0, 9, 4, 5, 6, 7, 8] (by decide) rfl, rfl⟩
     replace hM := M.e_f hM aX
     refine W.skip ?_
     exact ⟨av, [cBlk ag [.slice none 0 0] 34, cMap I B ae av], (M.e_pure hM).symm, rfl, H.pick [2, 1, 8, 3, 4, 5, 6, 7] (by decide) rfl⟩
    replace H : St w bh (cAll (cObj aN (.loop aR) :: [cBlk ag [.slice none 0 0] 34, cMap I B ae (updF ap (ab : Int) true)]) :: [cMk (aq :: ([])), cBlk am [Pz ak] 127, cBlk ao [I al] 3, cBlk aj [I aa] 3, cBlk ai [I ab] 3, cBlk ah [Pz ac] 160]) R := St.bundleB (A := cObj aN (.loop aR) :: [cBlk ag [.slice none 0 0] 34, cMap I B ae (updF ap (ab : Int) true)]) (T := [cMk (aq :: ([])), cBlk am [Pz ak] 127, cBlk ao [I al] 3, cBlk aj [I aa] 3, cBlk ai [I ab] 3, cBlk ah [Pz ac] 160]) rfl (H.pick [0, 2, 3, 1, 4, 5, 6, 7, 8] (by decide) rfl)
    refine (zbL (M.yl (zal ax s_enters ab aa (M.fixN zab n_))) (.inl (updF ap (ab : Int) true)) ax al hYC ⟨_, rfl, rfl⟩ (aE.app _) aH (aF.app _) (Has.here (k := 1) rfl) (Has.here (k := 2) rfl) bg _ (St.give (A := [cAll (cObj aN (.loop aR) :: [cBlk ag [.slice none 0 0] 34, cMap I B ae (updF ap (ab : Int) true)])]) (T := [cMk (aq :: ([])), cBlk am [Pz ak] 127, cBlk ao [I al] 3, cBlk aj [I aa] 3, cBlk ai [I ab] 3, cBlk ah [Pz ac] 160]) H rfl)).mono ?_
    rintro vq bZ ⟨bx, b6, bz, hvq, ay, a5⟩
    subst bz
    replace H := H.back ay rfl
    clear ay hYC
    rcases bx with mp | ⟨l, aB⟩
    ·try dsimp only at hM
     obtain ⟨_, rfl, rfl⟩ := a5
     refine ⟨_, [cBlk ag [.slice none 0 0] 34, cMap I B ae mp, cBlk am [Pz ak] 127, cBlk ao [I al] 3, cBlk aj [I aa] 3, cBlk ai [I ab] 3, cBlk ah [Pz ac] 160], H.unbundle.pick [0, 3, 1, 2, 4, 5, 6, 7, 8] (by decide) rfl, aT.nb, ?_⟩
     intro aY H
     rw [aT.pd]
     replace H : St w aY [cMk (aq :: ([])), cBlk ag [.slice none 0 0] 34, cMap I B ae mp, cBlk am [Pz ak] 127, cBlk ao [I al] 3, cBlk aj [I aa] 3, cBlk ai [I ab] 3, cBlk ah [Pz ac] 160] R := H
     try simp only []
     refine WD.seq ?_
     refine WD.of ?_
     refine W.region rfl ?_
     refine t_st (k := 1) (b := ag) (off := 0) (cs := [.slice none 0 0]) (vs := [.slice none 0 0]) (cs' := [.slice none 0 0]) (v := .slice none 0 0) (L' := [cMk (aq :: ([])), cBlk ag [.slice none 0 0] 34, cMap I B ae mp, cBlk am [Pz ak] 127, cBlk ao [I al] 3, cBlk aj [I aa] 3, cBlk ai [I ab] 3, cBlk ah [Pz ac] 160]) H rfl rfl rfl Sz34 rfl rfl rfl rfl rfl rfl ?_
     intro b8 H
     refine s_nil ?_
     refine WD.of ?_
     refine W.ret ?_
     refine bodyD_r (H.pick [0, 1, 2, 3, 4, 5, 6, 7] (by decide) rfl) ?_
     intro a6 H
     replace H : St w a6 [cBlk ag [.slice none 0 0] 34, cMap I B ae mp, cBlk am [Pz ak] 127, cBlk ao [I al] 3, cBlk aj [I aa] 3, cBlk ai [I ab] 3, cBlk ah [Pz ac] 160] R := H
     have bA := (H.blk (k := 0) rfl)
     have aL := M.e_pure hM
     replace H : St w a6 [cOwn (α := Int) 3 (.slice none 0 0) ([]), cBlk ag [.slice none 0 0] 34, cMap I B ae mp, cBlk am [Pz ak] 127, cBlk ao [I al] 3, cBlk aj [I aa] 3, cBlk ai [I ab] 3, cBlk ah [Pz ac] 160] R := H.nilOwn (α := Int) 3
     exact ⟨_, (resE_of1 (v := .slice none 0 0) rfl (.cell (v := .slice none 0 0) rfl (run_loadVar_sc Sc34 bA rfl) <| .nil)), ⟨([]), mp, (.slice none 0 0), aL, rfl, (H.pick [0, 2] (by decide) rfl), (fun _ => rfl)⟩⟩
    try dsimp only at hM
    obtain ⟨_, rfl, au, rfl⟩ := a5
    refine ⟨_, [cBlk ag [au] 34, cMap I B ae aB, cOwn (α := Int) 3 au l, cBlk am [Pz ak] 127, cBlk ao [I al] 3, cBlk aj [I aa] 3, cBlk ai [I ab] 3, cBlk ah [Pz ac] 160], H.unbundle.pick [0, 4, 1, 2, 3, 5, 6, 7, 8, 9] (by decide) rfl, nofun, ?_⟩
    intro aY H
    show WD _ _ _ (.ret) _ _ _
    refine WD.of ?_
    refine W.ret ?_
    replace H : St w aY [cMk (aq :: ([])), cBlk ag [au] 34, cMap I B ae aB, cOwn (α := Int) 3 au l, cBlk am [Pz ak] 127, cBlk ao [I al] 3, cBlk aj [I aa] 3, cBlk ai [I ab] 3, cBlk ah [Pz ac] 160] R := H
    refine bodyD_r (H.pick [0, 1, 2, 3, 4, 5, 6, 7, 8] (by decide) rfl) ?_
    intro bB H
    replace H : St w bB [cBlk ag [au] 34, cMap I B ae aB, cOwn (α := Int) 3 au l, cBlk am [Pz ak] 127, cBlk ao [I al] 3, cBlk aj [I aa] 3, cBlk ai [I ab] 3, cBlk ah [Pz ac] 160] R := H
    have bC := (H.blk (k := 0) rfl)
    obtain ⟨aZ, hM⟩ := M.e_grd hM
    simp only [decide_eq_true_eq] at aZ
    have aL := M.e_pure hM
    exact ⟨_, (resE_of1 (v := au) rfl (.cell (v := au) rfl (run_loadVar_sc Sc34 bC rfl) <| .nil)), ⟨l, aB, au, aL, rfl, (H.pick [2, 1] (by decide) rfl), (fun h_ => by rw [h_] at aZ; simp at aZ)⟩⟩
theorem zb4 {R : List Chunk} {ah : Nat} {ai : Nat} {aj : Cells} {ak : Value} {al : Value} {aa : Nat} (ab : List Work) (s_enters : Int -> M Bool) (ac : Int -> Option Bool) (ae : Int) (ag : Int) (am : Reads R aj) (ao : Sl aj ak ab) (ap : Has R (cBlk ai [ak] 187)) (aq : FnM Try.prog R al s_enters) (au : Has R (cBlk ah [Pz ai, al, .map (some aa)] 211)) {r : ((List Int) × (Int -> Option Bool))} (hM : (zbn ab s_enters ac ae ag).Ends r) (w : World) (H : St w w [cMap I B aa ac] R) : Ret Try.prog 150 #[Pz ah, I ae, I ag] w fun v w' => ∃ (y0 : List Int) (y1 : Int -> Option Bool) (u0 : Value), (y0, y1) = r /\ v = u0 /\ St w w' [cOwn (α := Int) 3 u0 y0, cMap I B aa y1] R /\ (y0 = [] -> u0 = .slice none 0 0) := by
  obtain ⟨n_, hM⟩ := M.e_fix hM
  exact zci n_ ab s_enters ac ae ag am ao ap aq au hM w H

def zbA (aa : List Work) (s_enters : Int -> M Bool) (ag : Int -> Option Bool) (ab : Int) (ac : Int) : M ((List Int) × (Int -> Option Bool)) :=
  M.bind (zbn aa s_enters (fun _ => none) ab ac) fun (r2, ae) =>
  M.pure (r2, ae)
theorem zcg {R : List Chunk} {aa : Nat} {aj : Nat} {ak : Cells} {al : Value} {am : Value} {ab : Nat} (ag : List Work) (s_enters : Int -> M Bool) (ah : Int -> Option Bool) (ac : Int) (ae : Int) (au : Reads R ak) (av : Sl ak al ag) (aw : Has R (cBlk aj [al] 187)) (ax : FnM Try.prog R am s_enters) (ao : Has R (cBlk aa [Pz aj, am, .map (some ab)] 211)) {r : ((List Int) × (Int -> Option Bool))} (hM : (zbA ag s_enters ah ac ae).Ends r) (w : World) (H : St w w [cMap I B ab ah] R) : Ret Try.prog 110 #[Pz aa, I ac, I ae] w fun v w' => ∃ (y0 : List Int) (y1 : Int -> Option Bool) (u0 : Value), (y0, y1) = r /\ v = u0 /\ St w w' [cOwn (α := Int) 3 u0 y0, cMap I B ab y1] R /\ (y0 = [] -> u0 = .slice none 0 0) := by
 refine ret_of_W Try.func110 rfl rfl rfl ?_
 refine sQ rfl <| sA (.slice none 0 0) rfl <| s_nil <| sQ rfl <| sM (Pz aa) rfl <| s_val (x_nc (a := ⟨aa, 0, none⟩) rfl) <| s_val (x_fa (a := Pz aa) (v := Oz aa 2) rfl (fa_blk (o := 0) Fd211_2 Sz178)) <| s_val (x_ld (p := Oz aa 2) (v := .map (some ab)) rfl (ldb_sc Sc178 (ao.blk H) rfl)) ?_
 refine t_clearm (i := 0) (kenc := I) (venc := B) (f := ah) (L' := [cMap I B ab (fun _ => none)]) (by rw [show (#[178] : Array TypeId)[0]?.bind Try.prog.underlying = Try.prog.underlying 178 from rfl, Try.underlying178]; rfl) H rfl rfl rfl ?_
 intro aD H
 refine s_nil <| sQ rfl <| sM (Pz aa) rfl <| sM (I ac) rfl <| sM (I ae) rfl ?_
 obtain ⟨aE, ay, hM⟩ := M.e_bind hM
 refine s_call cf150 [Pz aa, I ac, I ae] rfl (zb4 ag s_enters (fun _ => none) ac ae (au.app _) av (aw.app _) (ax.app _) (ao.app _) ay _ (St.give (T := []) H rfl)) ?_
 rintro vq az ⟨r2, ap, ai, aA, hvq, aq, aB⟩
 subst aA
 subst vq
 try dsimp only at hM
 replace H : St w az [cOwn (α := Int) 3 ai r2, cMap I B ab ap] R := H.back aq rfl
 clear aq
 refine sA ai rfl <| s_nil ?_
 refine W.ret ?_
 have aC := M.e_pure hM
 exact ⟨_, resE_tmp rfl, ⟨r2, ap, ai, aC, rfl, H, aB⟩⟩

end Go.Proofs.Ytndobgodeicloaa
end
namespace Go.Nm
variable {ws : List Work}
/-- Was a work met? -/
def mt (m : Int -> Option Bool) (x : Int) : Prop := (m x).getD false = true
theorem mt_upd (m : Int -> Option Bool) (x y : Int) : mt (updF m x true) y ↔ y = x ∨ mt m y := by
  unfold mt updF
  by_cases e : y = x
  · rw [if_pos e]; exact ⟨fun _ => .inl e, fun _ => rfl⟩
  · rw [if_neg e]; exact ⟨fun h => .inr h, fun h => h.elim (fun h => absurd h e) id⟩
/-- Is a work made of another one? -/
def Succ (ws : List Work) (x y : Int) : Prop := 0 <= y /\ y < (ws.length : Int) /\ x ∈ (ws.getD y.toNat default).of
/-- What a search that finds nothing leaves. -/
structure Srch (ws : List Work) (m m' : Int -> Option Bool) (to_ : Int) : Prop where
  up : ∀ x, mt m x -> mt m' x
  cl : ∀ x, mt m' x -> mt m x ∨ ∀ y, Succ ws x y -> mt m' y
  no : ¬ mt m to_ -> ¬ mt m' to_
theorem Srch.refl (m : Int -> Option Bool) (to_ : Int) : Srch ws m m to_ := ⟨fun _ h => h, fun _ h => .inl h, fun h => h⟩
theorem Srch.trans {a b c : Int -> Option Bool} {to_ : Int} (h : Srch ws a b to_) (k : Srch ws b c to_) : Srch ws a c to_ :=
  ⟨fun x hx => k.up x (h.up x hx), fun x hx => by
    rcases k.cl x hx with h1 | h1
    · rcases h.cl x h1 with h2 | h2
      · exact .inl h2
      · exact .inr fun y hy => k.up y (h2 y hy)
    · exact .inr h1, fun hn => k.no (h.no hn)⟩
/-- A line from one work to another one. -/
structure LineOk (ws : List Work) (a b : Int) (l : List Int) : Prop where
  line : lineB ws l = true
  rng : ∀ x ∈ l, 0 <= x /\ x < (ws.length : Int)
  first : ∃ r, l = a :: r
  last : ∃ r, l = r ++ [b]
  len : (l.length : Int) <= ws.length - a
theorem LineOk.one {a : Int} (h0 : 0 <= a) (h1 : a < ws.length) : LineOk ws a a [a] := ⟨rfl, fun x hx => by rw [List.mem_singleton.1 hx]; exact ⟨h0, h1⟩, ⟨[], rfl⟩, ⟨[], rfl⟩, by simp; omega⟩
theorem LineOk.cons {a x b : Int} {l : List Int} (h0 : 0 <= a) (hs : Succ ws a x) (hx : a < x) (h : LineOk ws x b l) : LineOk ws a b ([a] ++ l) := by
  obtain ⟨r, hr⟩ := h.first
  obtain ⟨q, hq⟩ := h.last
  refine ⟨?_, fun y hy => ?_, ⟨l, rfl⟩, ⟨a :: q, by rw [hq]; rfl⟩, ?_⟩
  · have := h.line
    rw [hr] at this ⊢
    show ((ws.getD x.toNat default).of.contains a && lineB ws (x :: r)) = true
    rw [this, Bool.and_true, List.contains_iff_mem]
    exact hs.2.2
  · rcases List.mem_append.1 hy with hy | hy
    · rw [List.mem_singleton.1 hy]; exact ⟨h0, by have := hs.2.1; omega⟩
    · exact h.rng y hy
  · have := h.len
    simp only [List.length_append, List.length_cons, List.length_nil]
    omega
end Go.Nm
namespace Go.Proofs.Ytndobgodeicloaa
open Go Go.Nm
variable {ws : List Work}
theorem made_out' {T : Type} {y : T -> Int -> M (Bool × T)} {x : Int} (J : Nat -> T -> Prop) (Q : T -> Prop)
    (step : ∀ i t, i < ws.length -> J i t -> x ∈ (ws.getD i default).of -> (y t (i : Int)).Out (fun r => (r.1 = true /\ J (i + 1) r.2) ∨ (r.1 = false /\ Q r.2)))
    (skip : ∀ i t, i < ws.length -> J i t -> x ∉ (ws.getD i default).of -> J (i + 1) t) {t0 : T} (h0 : J 0 t0) : (zam y t0 ws x).Out (fun t => J ws.length t ∨ Q t) := by
  unfold zam
  refine M.o_bind (P := fun r => match r with | .inl t => Q t | .inr t => J ws.length t) ?_ ?_
  · refine M.o_for ws.length (fun i s => s.1 = i /\ J i s.2) ?_ ?_ (s := (0, t0)) ⟨rfl, h0⟩
    · rintro i ⟨j, t⟩ hi ⟨rfl, hj⟩
      dsimp only at hi hj ⊢
      simp only [zaN]
      have ho := webOf_ends (ws := ws) (i := (j : Int)) (by omega) (by omega) x
      rw [Int.toNat_natCast] at ho
      refine M.o_t (by simpa using hi) (M.o_bindE ho ?_)
      cases hc : (ws.getD j default).of.contains x with
      | true =>
        rw [List.contains_iff_mem] at hc
        refine M.o_t rfl (M.o_bind (step j t hi hj hc) ?_)
        rintro ⟨go, t'⟩ hr
        dsimp only at hr ⊢
        rcases hr with ⟨rfl, hr⟩ | ⟨rfl, hr⟩
        · exact M.o_f rfl (M.o_pure ⟨rfl, hr⟩)
        · exact M.o_t rfl (M.o_pure hr)
      | false =>
        have hn : x ∉ (ws.getD j default).of := fun h => by rw [← List.contains_iff_mem] at h; rw [h] at hc; cases hc
        exact M.o_f rfl (M.o_f rfl (M.o_pure ⟨rfl, skip j t hi hj hn⟩))
    · rintro ⟨j, t⟩ ⟨rfl, hj⟩
      dsimp only at hj ⊢
      simp only [zaN]
      exact M.o_f (by simp) (M.o_pure hj)
  · rintro (t | t) h
    · exact M.o_pure (.inr h)
    · exact M.o_pure (.inl h)
end Go.Proofs.Ytndobgodeicloaa
namespace Go.Nm
theorem sumN_lt {f g : Nat -> Int} {n : Nat} (h : ∀ i, i < n -> f i <= g i) {k : Nat} (hk : k < n) (hlt : f k < g k) : sumN f n < sumN g n := by
  have := sumN_ge (f := fun i => g i - f i) (fun i hi => by have := h i hi; omega) k hk
  rw [sumN_sub] at this
  omega
/-- The room between two sides. -/
def roomN (mp : Gate -> Option Int) (u v : Nat) : Int := (mp ⟨(u : Int), (v : Int)⟩).getD 0
theorem updG {mp : Gate -> Option Int} {a s : Nat} {z : Int} (u v : Nat) : roomN (updF mp ⟨(a : Int), (s : Int)⟩ z) u v = if u = a /\ v = s then z else roomN mp u v := by
  unfold roomN updF
  by_cases e : u = a /\ v = s
  · rw [if_pos e, e.1, e.2, if_pos rfl]; rfl
  · rw [if_neg e, if_neg]
    intro h
    have h1 := congrArg Gate.src h
    have h2 := congrArg Gate.dst h
    dsimp only at h1 h2
    exact e ⟨by omega, by omega⟩
theorem room_step (q : Gate -> Option Int) {a s : Nat} (hne : a ≠ s) (u v : Nat) :
    roomN (updF (updF q ⟨(a : Int), (s : Int)⟩ ((q ⟨(a : Int), (s : Int)⟩).getD 0 - 1)) ⟨(s : Int), (a : Int)⟩ (((updF q ⟨(a : Int), (s : Int)⟩ ((q ⟨(a : Int), (s : Int)⟩).getD 0 - 1)) ⟨(s : Int), (a : Int)⟩).getD 0 + 1)) u v
      = roomN q u v - (if u = a /\ v = s then 1 else 0) + (if v = a /\ u = s then 1 else 0) := by
  have h1 : ((updF q ⟨(a : Int), (s : Int)⟩ ((q ⟨(a : Int), (s : Int)⟩).getD 0 - 1)) ⟨(s : Int), (a : Int)⟩).getD 0 = roomN q s a := by
    have := updG (mp := q) (a := a) (s := s) (z := (q ⟨(a : Int), (s : Int)⟩).getD 0 - 1) s a
    rw [if_neg (fun h => hne h.1.symm)] at this
    exact this
  rw [h1, updG, updG]
  by_cases e1 : u = s /\ v = a
  · rw [if_pos e1, e1.1, e1.2, if_neg (fun h => hne h.1.symm), if_pos ⟨rfl, rfl⟩]; omega
  · rw [if_neg e1, if_neg (c := v = a /\ u = s) (fun h => e1 ⟨h.2, h.1⟩)]
    by_cases e2 : u = a /\ v = s
    · rw [if_pos e2, if_pos e2, e2.1, e2.2]; unfold roomN; omega
    · rw [if_neg e2, if_neg e2]; omega
/-- How many were not met. -/
def unmet (N : Nat) (m : Int -> Option Bool) : Int := sumN (fun x => if (m (x : Int)).getD false then 0 else 1) N
theorem unmet_nn (N : Nat) (m : Int -> Option Bool) : 0 <= unmet N m := sumN_nn fun i _ => by split <;> omega
theorem unmet_le {N : Nat} {m m' : Int -> Option Bool} (h : ∀ x : Nat, mt m x -> mt m' x) : unmet N m' <= unmet N m := by
  refine sumN_le fun i _ => ?_
  have := h i
  unfold Nm.mt at this
  by_cases e : (m (i : Int)).getD false = true
  · rw [if_pos e, if_pos (this e)]; omega
  · rw [if_neg e]; split <;> omega
theorem unmet_lt {N : Nat} {m m' : Int -> Option Bool} (h : ∀ x : Nat, mt m x -> mt m' x) {s : Nat} (hs : s < N) (h1 : ¬ mt m s) (h2 : mt m' s) : unmet N m' < unmet N m := by
  refine sumN_lt (fun i _ => ?_) hs ?_
  · have := h i
    unfold Nm.mt at this
    by_cases e : (m (i : Int)).getD false = true
    · rw [if_pos e, if_pos (this e)]; omega
    · rw [if_neg e]; split <;> omega
  · unfold Nm.mt at h1 h2
    rw [if_neg h1, if_pos h2]; omega
/-- What a search that does not come to the end leaves. -/
structure GoNo (N t : Nat) (c : Nat -> Nat -> Int) (m m' : Int -> Option Bool) (a : Nat) : Prop where
  up : ∀ x : Nat, mt m x -> mt m' x
  at_ : mt m' a
  acl : ∀ y, y < N -> 0 < c a y -> mt m' y
  cl : ∀ x : Nat, mt m' x -> mt m x ∨ ∀ y, y < N -> 0 < c x y -> mt m' y
  no : ¬ mt m' t
/-- A path to the end along which there was room, by works not met. -/
structure GoYes (N t : Nat) (c c' : Nat -> Nat -> Int) (m : Int -> Option Bool) (a : Nat) (l : List Nat) : Prop where
  pa : Pa c (a :: l)
  once : (a :: l).Nodup
  new : ∀ x ∈ l, ¬ mt m x
  rng : ∀ x ∈ a :: l, x < N
  last : lst a l = t
  room : ∀ u v, c' u v = pushP c (a :: l) u v
def GoQ (N t : Nat) (mp : Gate -> Option Int) (m : Int -> Option Bool) (a : Nat) (r : Bool × (Gate -> Option Int) × (Int -> Option Bool)) : Prop :=
  (r.1 = false /\ r.2.1 = mp /\ a ≠ t /\ GoNo N t (roomN mp) m r.2.2 a) ∨ (r.1 = true /\ ∃ l, GoYes N t (roomN mp) (roomN r.2.1) m a l)
end Go.Nm
namespace Go.Proofs.Ytndobgodeicloaa
open Go Go.Nm
variable {ws : List Work} {rev : List Int}
theorem goes_out {t : Nat} (ht : t < ws.length) (hl : ws.length <= 1000) : ∀ (d : Nat) (a : Nat) (mp : Gate -> Option Int) (m : Int -> Option Bool), (∀ u v, 0 <= roomN mp u v /\ roomN mp u v <= 1000) -> a < 2 * ws.length -> ¬ mt m ((2 * t : Nat) : Int) -> unmet (2 * ws.length) (updF m (a : Int) true) < d →
    (zbm ws rev (t : Int) mp m (a : Int)).Out (GoQ (2 * ws.length) (2 * t) mp m a) := by
  intro d
  induction d with
  | zero => intro a mp m _ _ _ h; have := unmet_nn (2 * ws.length) (updF m (a : Int) true); omega
  | succ d ih =>
    intro a mp m hb ha hm hd
    suffices h : (zan (M.fix zan zbU) (ws, rev, (t : Int), mp, m, (a : Int))).Out (GoQ (2 * ws.length) (2 * t) mp m a) by
      obtain ⟨r, h2, h3⟩ := h
      exact ⟨r, M.i_fix h2, h3⟩
    simp only [zan]
    refine M.o_grd (gA2 (by omega) (by omega)) (M.o_if (fun hq => ?_) (fun hq => ?_))
    · have e : a = 2 * t := by simp only [beq_iff_eq] at hq; omega
      refine M.o_pure (.inr ⟨rfl, [], ⟨trivial, by simp, by simp, by simpa using ha, e, fun u v => by simp [pushP, eP]⟩⟩)
    · have hne : a ≠ 2 * t := by simp only [beq_eq_false_iff_ne, ne_eq] at hq; omega
      refine M.o_grd (gA2 (by omega) (by omega)) (M.o_bind (P := fun r => match r with
        | .inl (c', _) => ∃ l, GoYes (2 * ws.length) (2 * t) (roomN mp) (roomN c') m a l
        | .inr (c', m') => c' = mp /\ GoNo (2 * ws.length) (2 * t) (roomN mp) m m' a) ?_ ?_)
      · refine M.o_for (2 * ws.length) (fun i st => st.2.2 = i /\ st.1 = mp /\ (∀ x : Nat, mt (updF m (a : Int) true) x -> mt st.2.1 x) /\ (∀ x : Nat, mt st.2.1 x -> mt (updF m (a : Int) true) x ∨ ∀ y, y < 2 * ws.length -> 0 < roomN mp x y -> mt st.2.1 y) /\ ¬ mt st.2.1 ((2 * t : Nat) : Int) /\ ∀ y, y < i -> 0 < roomN mp a y -> mt st.2.1 y) ?_ ?_
          (s := (mp, updF m (a : Int) true, 0)) ⟨rfl, rfl, fun _ h => h, fun _ h => .inl h, fun h => ?_, fun y hy => by omega⟩
        · rintro i ⟨c, m2, s⟩ hi ⟨rfl, rfl, hup, hcl, hno, hdone⟩
          dsimp only at hi hup hcl hno hdone ⊢
          simp only [zaw]
          refine M.o_t (by simp only [decide_eq_true_eq]; omega) ?_
          have next : ∀ m3 : Int -> Option Bool, (∀ x : Nat, mt m2 x -> mt m3 x) -> (∀ x : Nat, mt m3 x -> mt m2 x ∨ ∀ y, y < 2 * ws.length -> 0 < roomN c x y -> mt m3 y) -> ¬ mt m3 ((2 * t : Nat) : Int) -> (0 < roomN c a s -> mt m3 s) →
              (s + 1 = s + 1 /\ c = c /\ (∀ x : Nat, mt (updF m (a : Int) true) x -> mt m3 x) /\ (∀ x : Nat, mt m3 x -> mt (updF m (a : Int) true) x ∨ ∀ y, y < 2 * ws.length -> 0 < roomN c x y -> mt m3 y) /\ ¬ mt m3 ((2 * t : Nat) : Int) /\ ∀ y, y < s + 1 -> 0 < roomN c a y -> mt m3 y) := by
            intro m3 h1 h2 h3 h4
            refine ⟨rfl, rfl, fun x hx => h1 x (hup x hx), fun x hx => ?_, h3, fun y hy hr => ?_⟩
            · rcases h2 x hx with h5 | h5
              · rcases hcl x h5 with h6 | h6
                · exact .inl h6
                · exact .inr fun y hy hr => h1 y (h6 y hy hr)
              · exact .inr h5
            · by_cases e : y = s
              · subst e; exact h4 hr
              · exact h1 y (hdone y (by omega) hr)
          cases hc : ((decide (0 < ((c (⟨(a : Int), (s : Int)⟩ : Gate)).getD 0))) && (!((m2 (s : Int)).getD false))) with
          | false =>
            refine M.o_f rfl (M.o_f rfl (M.o_grd (gA2 (by omega) (by omega)) (M.o_pure (next m2 (fun _ h => h) (fun _ h => .inl h) hno (fun hr => ?_)))))
            rw [decide_eq_true (show 0 < ((c (⟨(a : Int), (s : Int)⟩ : Gate)).getD 0) from hr), Bool.true_and] at hc
            unfold Nm.mt
            simpa using hc
          | true =>
            simp only [Bool.and_eq_true, decide_eq_true_eq, Bool.not_eq_true'] at hc
            obtain ⟨hr, hns⟩ := hc
            have hns' : ¬ mt m2 (s : Int) := by unfold Nm.mt; rw [hns]; simp
            have hma : mt m2 (a : Int) := hup a ((mt_upd m a a).2 (.inl rfl))
            have has : a ≠ s := fun e => hns' (e ▸ hma)
            refine M.o_t rfl (M.o_bind (ih s c m2 hb hi hno ?_) ?_)
            · have h1 := unmet_lt (N := 2 * ws.length) (m := m2) (m' := updF m2 (s : Int) true) (fun x hx => (mt_upd m2 _ _).2 (.inr hx)) hi hns' ((mt_upd m2 _ _).2 (.inl rfl))
              have h2 := unmet_le (N := 2 * ws.length) hup
              omega
            · rintro ⟨b, q, m7⟩ (⟨rfl, rfl, hst, hG⟩ | ⟨rfl, l, hG⟩)
              · dsimp only at hG ⊢
                refine M.o_f rfl (M.o_grd (gA2 (by omega) (by omega)) (M.o_pure (next m7 hG.up hG.cl hG.no (fun _ => hG.at_))))
              · dsimp only at hG ⊢
                have ha' : a ∉ s :: l := fun h => by
                  rcases List.mem_cons.1 h with h | h
                  · exact has h
                  · exact hG.new a h hma
                have r1 := hG.room a s
                have r2 := hG.room s a
                unfold pushP at r1 r2
                rw [eP_no (.inl ha'), eP_no (.inr ha')] at r1
                rw [eP_no (.inr ha'), eP_no (.inl ha')] at r2
                have b1 : 0 <= roomN c a s /\ roomN c a s <= 1000 := hb a s
                have b2 : 0 <= roomN c s a /\ roomN c s a <= 1000 := hb s a
                have e2 : ((updF q ⟨(a : Int), (s : Int)⟩ ((q ⟨(a : Int), (s : Int)⟩).getD 0 - 1)) ⟨(s : Int), (a : Int)⟩).getD 0 = roomN q s a := by
                  have := updG (mp := q) (a := a) (s := s) (z := (q ⟨(a : Int), (s : Int)⟩).getD 0 - 1) s a
                  rw [if_neg (fun h => has h.1.symm)] at this
                  exact this
                have e1 : (q ⟨(a : Int), (s : Int)⟩).getD 0 = roomN q a s := rfl
                refine M.o_t rfl (M.o_grd (gA2 (by rw [e1]; omega) (by rw [e1]; omega)) (M.o_grd (gA2 (by rw [e2]; omega) (by rw [e2]; omega)) (M.o_pure ⟨s :: l, ?_⟩)))
                refine ⟨⟨hr, hG.pa⟩, List.nodup_cons.2 ⟨ha', hG.once⟩, fun x hx hmx => ?_, fun x hx => ?_, hG.last, fun u v => ?_⟩
                · have hx2 : ¬ mt m2 (x : Int) := by
                    rcases List.mem_cons.1 hx with rfl | hx
                    · exact hns'
                    · exact hG.new x hx
                  exact hx2 (hup x ((mt_upd m a x).2 (.inr hmx)))
                · rcases List.mem_cons.1 hx with rfl | hx
                  · exact ha
                  · exact hG.rng x hx
                · rw [room_step q has u v, hG.room u v]
                  simp only [pushP, eP]
                  omega
        · rintro ⟨c, m2, s⟩ ⟨rfl, rfl, hup, hcl, hno, hdone⟩
          dsimp only at hup hcl hno hdone ⊢
          simp only [zaw]
          refine M.o_f (by simp only [decide_eq_false_iff_not]; omega) (M.o_pure ⟨rfl, fun x hx => hup x ((mt_upd m a x).2 (.inr hx)), hup a ((mt_upd m a a).2 (.inl rfl)), hdone, fun x hx => ?_, hno⟩)
          rcases hcl x hx with h | h
          · rcases (mt_upd m a x).1 h with h | h
            · obtain rfl : x = a := by omega
              exact .inr hdone
            · exact .inl h
          · exact .inr h
        · rcases (mt_upd m a _).1 h with h | h
          · omega
          · exact hm h
      · rintro (⟨c', m'⟩ | ⟨c', m'⟩) h
        · obtain ⟨l, h⟩ := h
          exact M.o_pure (.inr ⟨rfl, l, h⟩)
        · obtain ⟨rfl, h⟩ := h
          exact M.o_pure (.inl ⟨rfl, rfl, hne, h⟩)
end Go.Proofs.Ytndobgodeicloaa
namespace Go.Nm
variable {ws : List Work} {rev : List Int} {t : Nat}
theorem ite_le1 (b : Bool) : (if b = true then (1 : Int) else 0) <= 1 := by split <;> omega
/-- Can a work be frozen? -/
def innB (rev : List Int) (t i : Int) : Bool := (i != t) && (!(rev.contains i))
theorem innB_iff {t i : Int} : innB rev t i = true ↔ i ≠ t /\ i ∉ rev := by
  unfold innB
  simp
/-- A gate through a work. -/
def gateP (rev : List Int) (t n u v : Nat) : Prop := u % 2 = 0 /\ v = u + 1 /\ u / 2 < n /\ innB rev t ((u / 2 : Nat) : Int) = true
/-- A gate from a work to one that is made of it. -/
def bigP (ws : List Work) (rev : List Int) (t n u v : Nat) : Prop := u % 2 = 1 /\ v % 2 = 0 /\ v / 2 < n /\ ((u / 2 : Nat) : Int) ∈ (ws.getD (v / 2) default).of /\ u / 2 ≠ t /\ (v / 2 = t ∨ innB rev t ((v / 2 : Nat) : Int) = true)
instance {n u v : Nat} : Decidable (gateP rev t n u v) := by unfold gateP; infer_instance
instance {n u v : Nat} : Decidable (bigP ws rev t n u v) := by unfold bigP; infer_instance
/-- The room at first. -/
def C0 (ws : List Work) (rev : List Int) (t n u v : Nat) : Int := if gateP rev t n u v then 1 else if bigP ws rev t n u v then 30 else 0
theorem C0_nn (n u v : Nat) : 0 <= C0 ws rev t n u v /\ C0 ws rev t n u v <= 30 := by unfold C0; split <;> (try split) <;> omega
theorem C0_zero (u v : Nat) : C0 ws rev t 0 u v = 0 := by
  unfold C0
  rw [if_neg (fun h => by have := h.2.2.1; omega), if_neg (fun h => by have := h.2.2.1; omega)]
theorem C0_gate {n u v : Nat} (h : gateP rev t n u v) : C0 ws rev t n u v = 1 := by unfold C0; rw [if_pos h]
theorem C0_big {n u v : Nat} (h : bigP ws rev t n u v) : C0 ws rev t n u v = 30 := by unfold C0; rw [if_neg (fun h' => by have := h.1; have := h'.1; omega), if_pos h]
theorem C0_no {n u v : Nat} (h : ¬ gateP rev t n u v) (h' : ¬ bigP ws rev t n u v) : C0 ws rev t n u v = 0 := by unfold C0; rw [if_neg h, if_neg h']
/-- A gate to one work. -/
def bigI (rev : List Int) (t i : Nat) (l : List Int) (u v : Nat) : Prop := u % 2 = 1 /\ v = 2 * i /\ ((u / 2 : Nat) : Int) ∈ l /\ u / 2 ≠ t /\ (i = t ∨ innB rev t (i : Int) = true)
instance {i u v : Nat} {l : List Int} : Decidable (bigI rev t i l u v) := by unfold bigI; infer_instance
theorem C0_next (i u v : Nat) : C0 ws rev t (i + 1) u v = if bigI rev t i (ws.getD i default).of u v then 30 else if u = 2 * i /\ v = 2 * i + 1 /\ innB rev t (i : Int) = true then 1 else C0 ws rev t i u v := by
  by_cases h1 : bigI rev t i (ws.getD i default).of u v
  · rw [if_pos h1]
    obtain ⟨a, rfl, c, d, e⟩ := h1
    exact C0_big ⟨a, by omega, by omega, by rw [show 2 * i / 2 = i from by omega]; exact c, d, by rw [show 2 * i / 2 = i from by omega]; exact e⟩
  · rw [if_neg h1]
    by_cases h2 : u = 2 * i /\ v = 2 * i + 1 /\ innB rev t (i : Int) = true
    · rw [if_pos h2]
      obtain ⟨rfl, rfl, e⟩ := h2
      exact C0_gate ⟨by omega, rfl, by omega, by rw [show 2 * i / 2 = i from by omega]; exact e⟩
    · rw [if_neg h2]
      by_cases h3 : gateP rev t i u v
      · rw [C0_gate h3]
        exact C0_gate ⟨h3.1, h3.2.1, by have := h3.2.2.1; omega, h3.2.2.2⟩
      · by_cases h4 : bigP ws rev t i u v
        · rw [C0_big h4]
          exact C0_big ⟨h4.1, h4.2.1, by have := h4.2.2.1; omega, h4.2.2.2⟩
        · rw [C0_no h3 h4]
          refine C0_no (fun h => ?_) (fun h => ?_)
          · by_cases e : u / 2 = i
            · exact h2 ⟨by have := h.1; omega, by have := h.1; have := h.2.1; omega, by rw [← e]; exact h.2.2.2⟩
            · exact h3 ⟨h.1, h.2.1, by have := h.2.2.1; omega, h.2.2.2⟩
          · by_cases e : v / 2 = i
            · exact h1 ⟨h.1, by have := h.2.1; omega, by rw [← e]; exact h.2.2.2.1, h.2.2.2.2.1, by rw [← e]; exact h.2.2.2.2.2⟩
            · exact h4 ⟨h.1, h.2.1, by have := h.2.2.1; omega, h.2.2.2⟩
/-- Where lines begin. -/
def srcB (rev : List Int) (v : Nat) : Bool := decide (v % 2 = 1) && rev.contains ((v / 2 : Nat) : Int)
theorem srcB_iff {v : Nat} : srcB rev v = true ↔ v % 2 = 1 /\ ((v / 2 : Nat) : Int) ∈ rev := by
  unfold srcB
  simp
/-- Lanes. -/
abbrev Lanes (ws : List Work) (rev : List Int) (t : Nat) (c : Nat -> Nat -> Int) : Prop := Flow (2 * ws.length) (2 * t) (srcB rev) (C0 ws rev t ws.length) c
abbrev vaL (ws : List Work) (rev : List Int) (t : Nat) (c : Nat -> Nat -> Int) : Int := flowV (2 * ws.length) (2 * t) (C0 ws rev t ws.length) c
/-- What cannot be left. -/
def ShutN (N : Nat) (c : Nat -> Nat -> Int) (S : Nat -> Bool) : Prop := ∀ u v, u < N -> v < N -> S u = true -> 0 < c u v -> S v = true
variable {c : Nat -> Nat -> Int}
theorem Lanes.bd (h : Lanes ws rev t c) (u v : Nat) : 0 <= c u v /\ c u v <= 1000 := by
  have h1 := h.nn u v
  have h2 := h.nn v u
  have h3 := h.skew u v
  have h4 := C0_nn (ws := ws) (rev := rev) (t := t) ws.length u v
  have h5 := C0_nn (ws := ws) (rev := rev) (t := t) ws.length v u
  omega
/-- What is asked of lanes: no work is made of a revised one directly. -/
structure LnHyp (ws : List Work) (rev : List Int) (t : Nat) : Prop where
  opn : openedE ws = 0
  tl : t < ws.length
  rng : ∀ r ∈ rev, 0 <= r /\ r < (ws.length : Int)
  nt : (t : Int) ∉ rev
  dir : ∀ r ∈ rev, r ∉ (ws.getD t default).of
/-- No more lines go than there are works that can be frozen. -/
theorem Lanes.most (H : LnHyp ws rev t) (h : Lanes ws rev t c) : vaL ws rev t c < ws.length := by
  have hl := right_len (opened_right H.opn)
  have key := h.le (S := fun u => if u % 2 = 0 then innB rev t ((u / 2 : Nat) : Int) else rev.contains ((u / 2 : Nat) : Int)) (by have := H.tl; omega)
    (by rw [if_pos (by omega), show 2 * t / 2 = t from by omega]; unfold innB; simp)
    (fun v _ hs => by
      have := srcB_iff.1 hs
      rw [if_neg (by omega), List.contains_iff_mem]
      exact this.2)
  refine Int.lt_of_le_of_lt key ?_
  rw [sumN_two]
  have step : ∀ i, i < ws.length -> (sumN (fun v => if (if (2 * i) % 2 = 0 then innB rev t ((2 * i / 2 : Nat) : Int) else rev.contains ((2 * i / 2 : Nat) : Int)) && !(if v % 2 = 0 then innB rev t ((v / 2 : Nat) : Int) else rev.contains ((v / 2 : Nat) : Int)) then C0 ws rev t ws.length (2 * i) v else 0) (2 * ws.length)
      + sumN (fun v => if (if (2 * i + 1) % 2 = 0 then innB rev t (((2 * i + 1) / 2 : Nat) : Int) else rev.contains (((2 * i + 1) / 2 : Nat) : Int)) && !(if v % 2 = 0 then innB rev t ((v / 2 : Nat) : Int) else rev.contains ((v / 2 : Nat) : Int)) then C0 ws rev t ws.length (2 * i + 1) v else 0) (2 * ws.length))
      <= if i = t then 0 else 1 := by
    intro i hi
    have e2 : sumN (fun v => if (if (2 * i + 1) % 2 = 0 then innB rev t (((2 * i + 1) / 2 : Nat) : Int) else rev.contains (((2 * i + 1) / 2 : Nat) : Int)) && !(if v % 2 = 0 then innB rev t ((v / 2 : Nat) : Int) else rev.contains ((v / 2 : Nat) : Int)) then C0 ws rev t ws.length (2 * i + 1) v else 0) (2 * ws.length) = 0 := by
      refine sumN_zero' fun v _ => ?_
      rw [if_neg (show ¬ (2 * i + 1) % 2 = 0 from by omega), show (2 * i + 1) / 2 = i from by omega]
      cases hr : rev.contains (i : Int) with
      | false => rfl
      | true =>
        rw [List.contains_iff_mem] at hr
        by_cases hb : bigP ws rev t ws.length (2 * i + 1) v
        · have h1 := hb.2.2.2.1
          rw [show (2 * i + 1) / 2 = i from by omega] at h1
          rcases hb.2.2.2.2.2 with e | e
          · rw [e] at h1
            exact absurd h1 (H.dir _ hr)
          · rw [if_pos hb.2.1, e]; rfl
        · rw [C0_no (fun h => by have := h.1; omega) hb]
          exact ite_self _
    rw [e2, Int.add_zero, sumN_one (k := 2 * i + 1) (fun v _ hne => ?_)]
    · rw [if_pos (show 2 * i + 1 < 2 * ws.length from by omega), if_pos (show (2 * i) % 2 = 0 from by omega), show 2 * i / 2 = i from by omega]
      by_cases e : i = t
      · subst e
        rw [if_pos rfl]
        have : innB rev (i : Int) (i : Int) = false := by unfold innB; simp
        rw [this]
        simp
      · rw [if_neg e]
        have := C0_nn (ws := ws) (rev := rev) (t := t) ws.length (2 * i) (2 * i + 1)
        by_cases hg : gateP rev t ws.length (2 * i) (2 * i + 1)
        · rw [C0_gate hg]
          exact ite_le1 _
        · rw [C0_no hg (fun h => by have := h.1; omega), ite_self]
          omega
    · rw [C0_no (fun h => hne h.2.1) (fun h => by have := h.1; omega)]
      exact ite_self _
  have h1 := sumN_le step
  have h2 : sumN (fun i => (1 : Int) - if i = t then 0 else 1) ws.length = 1 := by
    rw [sumN_one (k := t) (fun i _ hne => by rw [if_neg hne]; rfl), if_pos H.tl, if_pos rfl]
    rfl
  have h3 : sumN (fun _ => (1 : Int)) ws.length = ws.length := by
    have := sumN_count (fun _ => true) ws.length
    rw [List.filter_eq_self.2 (fun _ _ => rfl), List.length_range] at this
    simpa using this
  rw [sumN_sub, h3] at h2
  omega
/-- Lanes that are full. -/
structure FullL (ws : List Work) (rev : List Int) (t : Nat) (c : Nat -> Nat -> Int) : Prop where
  flow : Lanes ws rev t c
  shut : ∀ r ∈ rev, ∃ S, ShutN (2 * ws.length) c S /\ S (2 * t) = false /\ S (2 * r.toNat + 1) = true
end Go.Nm
namespace Go.Proofs.Ytndobgodeicloaa
open Go Go.Nm
variable {ws : List Work} {rev : List Int} {t : Nat}
theorem lanes_big (hR : rightE ws = 0) {i : Nat} (hi : i < ws.length) (ht : t < ws.length) (mp : Gate -> Option Int) :
    (M.iter (zaA ws rev (t : Int) i) (mp, 0)).Out (fun mp' => ∀ u v, roomN mp' u v = if bigI rev t i (ws.getD i default).of u v then 30 else roomN mp u v) := by
  have hl := right_len hR
  refine M.o_for (ws.getD i default).of.length (fun j st => st.2 = j /\ ∀ u v, roomN st.1 u v = if bigI rev t i ((ws.getD i default).of.take j) u v then 30 else roomN mp u v) ?_ ?_ (s := (mp, 0)) ⟨rfl, fun u v => by rw [if_neg (fun h => by simpa using h.2.2.1)]⟩
  · rintro j ⟨m, s⟩ hj ⟨rfl, hc⟩
    dsimp only at hj hc ⊢
    have hk := right_of hR hi _ (getD_memN (ws.getD i default).of (by omega : (s : Int) < _) 0)
    have htk := take_succ_getD (ws.getD i default).of hj 0
    simp only [zaA]
    generalize hke : (ws.getD i default).of.getD s 0 = k at *
    obtain ⟨kn, rfl⟩ := Int.eq_ofNat_of_zero_le hk.1
    have hop : (M.opt (((kn : Int) != (t : Int)) && !((i : Int) == (t : Int))) (zah ws rev (t : Int) m (fun _ => none) (i : Int)) false).Ends ((((kn : Int) != (t : Int)) && !((i : Int) == (t : Int))) && innB rev t (i : Int)) := by
      refine M.i_opt (fun h => ?_) (fun h => ?_)
      · rw [h, Bool.true_and]; exact M.i_pure
      · rw [h]; rfl
    refine M.o_t (by simpa using hj) (M.o_grdD (by omega) (M.o_bindE hop (M.o_if (fun hb => ?_) (fun hb => ?_))))
    · simp only [Bool.and_eq_true, Bool.or_eq_true, bne_iff_ne, ne_eq, beq_iff_eq, Bool.not_eq_true', beq_eq_false_iff_ne] at hb
      refine M.o_grd (gA2 (by omega) (by omega)) (M.o_grd (gA2 (by omega) (by omega)) (M.o_grd (gA2 (by omega) (by omega)) (M.o_pure ⟨rfl, fun u v => ?_⟩)))
      dsimp only
      have hg : (⟨(2 * (kn : Int)) + 1, 2 * (i : Int)⟩ : Gate) = ⟨((2 * kn + 1 : Nat) : Int), ((2 * i : Nat) : Int)⟩ := by
        congr 1
      rw [hg, updG, hc, htk]
      by_cases e : u = 2 * kn + 1 /\ v = 2 * i
      · rw [if_pos e, if_pos]
        obtain ⟨rfl, rfl⟩ := e
        refine ⟨by omega, rfl, by rw [show (2 * kn + 1) / 2 = kn from by omega]; simp, by omega, ?_⟩
        rcases hb.2 with h | h
        · exact .inl (by omega)
        · exact .inr h.2
      · rw [if_neg e]
        have : bigI rev t i ((ws.getD i default).of.take s ++ [(kn : Int)]) u v ↔ bigI rev t i ((ws.getD i default).of.take s) u v := by
          constructor
          · rintro ⟨a, b, h, d⟩
            refine ⟨a, b, ?_, d⟩
            rcases List.mem_append.1 h with h | h
            · exact h
            · rw [List.mem_singleton] at h
              exact absurd ⟨by omega, b⟩ e
          · rintro ⟨a, b, h, d⟩
            exact ⟨a, b, List.mem_append_left _ h, d⟩
        simp only [this]
    · refine M.o_pure ⟨rfl, fun u v => ?_⟩
      dsimp only
      rw [hc, htk]
      have : bigI rev t i ((ws.getD i default).of.take s ++ [(kn : Int)]) u v ↔ bigI rev t i ((ws.getD i default).of.take s) u v := by
        constructor
        · rintro ⟨a, b, h, d⟩
          refine ⟨a, b, ?_, d⟩
          rcases List.mem_append.1 h with h | h
          · exact h
          · rw [List.mem_singleton] at h
            exfalso
            have hkt : kn ≠ t := by have := d.1; omega
            rw [show ((kn : Int) != (t : Int)) = true from by simpa using fun h => hkt (by omega)] at hb
            rcases d.2 with h3 | h3
            · subst h3; simp at hb
            · have hit := (innB_iff.1 h3).1
              rw [h3, show ((i : Int) == (t : Int)) = false from by simpa using hit] at hb
              cases hb
        · rintro ⟨a, b, h, d⟩
          exact ⟨a, b, List.mem_append_left _ h, d⟩
      simp only [this]
  · rintro ⟨m, s⟩ ⟨rfl, hc⟩
    dsimp only at hc ⊢
    simp only [zaA]
    rw [List.take_length] at hc
    exact M.o_f (by simp) (M.o_pure hc)
theorem lanes_start (hR : rightE ws = 0) (ht : t < ws.length) : (M.iter (zat ws rev (t : Int)) ((fun _ => none), 0)).Out (fun mp => ∀ u v, roomN mp u v = C0 ws rev t ws.length u v) := by
  have hl := right_len hR
  refine M.o_for ws.length (fun i st => st.2 = i /\ ∀ u v, roomN st.1 u v = C0 ws rev t i u v) ?_ ?_ (s := ((fun _ => none), 0)) ⟨rfl, fun u v => by rw [C0_zero]; rfl⟩
  · rintro i ⟨m, s⟩ hi ⟨rfl, hc⟩
    dsimp only at hi hc ⊢
    simp only [zat]
    have hin : (zah ws rev (t : Int) m (fun _ => none) (s : Int)).Ends (innB rev t (s : Int)) := M.i_pure
    refine M.o_t (by simpa using hi) (M.o_grdD (by omega) (M.o_bindE hin (M.o_if (fun hb => ?_) (fun hb => ?_))))
    · refine M.o_grd (gA2 (by omega) (by omega)) (M.o_grd (gA2 (by omega) (by omega)) (M.o_bind (lanes_big hR hi ht _) (fun m' hm => M.o_pure ⟨rfl, fun u v => ?_⟩)))
      dsimp only
      have hg : (⟨2 * (s : Int), (2 * (s : Int)) + 1⟩ : Gate) = ⟨((2 * s : Nat) : Int), ((2 * s + 1 : Nat) : Int)⟩ := by
        congr 1
      rw [hm, hg, updG, hc, C0_next, hb]
      simp only [and_true]
    · refine M.o_bind (show (M.iter (zbh ws rev (t : Int) s) (m, 0)).Out _ from lanes_big hR hi ht m) (fun m' hm => M.o_pure ⟨rfl, fun u v => ?_⟩)
      dsimp only
      rw [hm, hc, C0_next, hb]
      simp only [Bool.false_eq_true, and_false, if_false]
  · rintro ⟨m, s⟩ ⟨rfl, hc⟩
    dsimp only at hc ⊢
    simp only [zat]
    exact M.o_f (by simp) (M.o_pure hc)
theorem mt_none (x : Int) : ¬ mt (fun _ => none) x := by unfold Nm.mt; simp
/-- Lines go from one work until no more can. -/
theorem lanes_more (H : LnHyp ws rev t) {s : Nat} (hs : s < rev.length) {mp : Gate -> Option Int} (m0 : Int -> Option Bool) (K : (Nat -> Nat -> Int) -> Prop) (hF : Lanes ws rev t (roomN mp)) (hK : K (roomN mp))
    (hstep : ∀ c a l, Lanes ws rev t c -> K c -> Pa c (a :: l) -> (∀ x ∈ a :: l, x < 2 * ws.length) -> lst a l = 2 * t -> K (pushP c (a :: l))) :
    (M.iter (zaV ws rev (t : Int) s) (mp, m0)).Out (fun r => Lanes ws rev t (roomN r.1) /\ K (roomN r.1) /\ ∃ S, ShutN (2 * ws.length) (roomN r.1) S /\ S (2 * t) = false /\ S (2 * (rev.getD s 0).toNat + 1) = true) := by
  have hl := right_len (opened_right H.opn)
  have hrm := getD_memN rev (by omega : (s : Int) < _) 0
  have hr := H.rng _ hrm
  have ht := H.tl
  refine M.o_iter (fun (m : Nat) (st : (Gate -> Option Int) × (Int -> Option Bool)) => Lanes ws rev t (roomN st.1) /\ K (roomN st.1) /\ m = (ws.length - vaL ws rev t (roomN st.1)).toNat) ?_ _ (mp, m0) ⟨hF, hK, rfl⟩
  rintro m ⟨c, m1⟩ ⟨hF, hK, rfl⟩
  dsimp only at hF hK ⊢
  simp only [zaV]
  generalize rev.getD s 0 = q at *
  obtain ⟨rn, rfl⟩ := Int.eq_ofNat_of_zero_le hr.1
  have he : (2 * ((rn : Nat) : Int)) + 1 = ((2 * rn + 1 : Nat) : Int) := by omega
  rw [he]
  refine M.o_grd (gA2 (by omega) (by omega)) (M.o_grd (gA2 (by omega) (by omega)) (M.o_bind (goes_out ht (by omega) ((unmet (2 * ws.length) (updF (fun _ => none) ((2 * rn + 1 : Nat) : Int) true)).toNat + 1) (2 * rn + 1) c (fun _ => none) hF.bd (by omega) (mt_none _) (by omega)) ?_))
  rintro ⟨b, c', m'⟩ (⟨rfl, rfl, hne, hG⟩ | ⟨rfl, l, hG⟩)
  · dsimp only at hG ⊢
    refine M.o_t rfl (M.o_pure ⟨hF, hK, fun x => (m' (x : Int)).getD false, fun u v hu hv hu2 hc => ?_, ?_, ?_⟩)
    · rcases hG.cl u hu2 with h | h
      · exact absurd h (mt_none _)
      · exact h v hv hc
    · have := hG.no
      unfold Nm.mt at this
      simpa using this
    · rw [Int.toNat_natCast]
      exact hG.at_
  · dsimp only at hG ⊢
    have hsrc : srcB rev (2 * rn + 1) = true := srcB_iff.2 ⟨by omega, by rw [show (2 * rn + 1) / 2 = rn from by omega]; exact hrm⟩
    obtain ⟨h1, h2⟩ := Flow.push hF hG.pa hG.once hG.rng hG.last hsrc (by omega)
    have hroom : roomN c' = pushP (roomN c) ((2 * rn + 1) :: l) := funext fun u => funext fun v => hG.room u v
    have hm := Lanes.most H h1
    refine M.o_f rfl (M.o_pure ⟨(ws.length - vaL ws rev t (roomN c')).toNat, ?_, ?_, ?_, rfl⟩)
    · rw [hroom]
      unfold vaL at hm ⊢
      omega
    · dsimp only; rw [hroom]; exact h1
    · dsimp only; rw [hroom]; exact hstep _ _ _ hF hK hG.pa hG.rng hG.last
theorem lanes_out (H : LnHyp ws rev t) : (zbk ws rev (t : Int)).Out (fun r => r.1 = (t : Int) /\ FullL ws rev t (roomN r.2.1)) := by
  unfold zbk
  refine M.o_bind (lanes_start (opened_right H.opn) H.tl) (fun mp hmp => ?_)
  have e0 : roomN mp = C0 ws rev t ws.length := funext fun u => funext fun v => hmp u v
  refine M.o_bind (P := fun r => FullL ws rev t (roomN r.1)) ?_ (fun r hr => M.o_pure ⟨rfl, hr⟩)
  refine M.o_for rev.length (fun i st => st.2.2 = i /\ Lanes ws rev t (roomN st.1) /\ ∀ j, j < i -> ∃ S, ShutN (2 * ws.length) (roomN st.1) S /\ S (2 * t) = false /\ S (2 * (rev.getD j 0).toNat + 1) = true) ?_ ?_ (s := (mp, (fun _ => none), 0)) ⟨rfl, by dsimp only; rw [e0]; exact Flow.start (fun u v => (C0_nn _ u v).1), fun j hj => by omega⟩
  · rintro i ⟨c, m1, s⟩ hi ⟨rfl, hF, hS⟩
    dsimp only at hi hF hS ⊢
    simp only [za0]
    refine M.o_t (by simpa using hi) (M.o_grdD (by omega) (M.o_bind (lanes_more H hi m1 (fun c => ∀ j, j < s -> ∃ S, ShutN (2 * ws.length) c S /\ S (2 * t) = false /\ S (2 * (rev.getD j 0).toNat + 1) = true) hF hS ?_) ?_))
    · intro c a l _ hK hp hr hl j hj
      obtain ⟨S, h1, h2, h3⟩ := hK j hj
      exact ⟨S, Pa.closed h1 h2 hp hr hl, h2, h3⟩
    · rintro ⟨c', m'⟩ ⟨h1, h2, h3⟩
      refine M.o_pure ⟨rfl, h1, fun j hj => ?_⟩
      by_cases e : j = s
      · subst e; exact h3
      · exact h2 j (by omega)
  · rintro ⟨c, m1, s⟩ ⟨rfl, hF, hS⟩
    dsimp only at hF hS ⊢
    simp only [za0]
    refine M.o_f (by simp) (M.o_pure ⟨hF, fun r hr => ?_⟩)
    obtain ⟨j, hj, rfl⟩ := mem_getD hr 0
    exact hS j hj
end Go.Proofs.Ytndobgodeicloaa
namespace Go.Proofs.Ytndobgodeicloaa
open Go Go.Nm
variable {ws : List Work} {rev f : List Int}
/-! ### Fences -/
theorem containsFunc_ends {s : List Int} {f : Int -> M Bool} {p : Int -> Bool} (hf : ∀ x ∈ s, (f x).Ends (p x)) : (zaf s f).Ends (s.any p) := by
  have key : ∃ r, (zau s f).Ends r /\ decide (0 <= r) = s.any p := by
    have h := M.i_loopQ (body := zaj s f) (fun r => match r with | .inl k => 0 <= k /\ s.any p = true | .inr _ => s.any p = false)
      (fun m i => m = s.length - i /\ i <= s.length /\ (s.take i).any p = false) (by
        rintro m i ⟨rfl, hi, ha⟩
        simp only [zaj]
        by_cases e : i < s.length
        · have hp := hf _ (getD_memN s (by omega : (i : Int) < _) 0)
          cases hc : p (s.getD i 0) with
          | true =>
            rw [hc] at hp
            exact .inr ⟨.inl (i : Int), M.i_t (by simpa using e) (M.grdD (by omega) (M.i_bind hp M.i_pure)), by omega, List.any_eq_true.2 ⟨_, getD_memN s (by omega : (i : Int) < _) 0, hc⟩⟩
          | false =>
            rw [hc] at hp
            exact .inl ⟨i + 1, s.length - (i + 1), by omega, M.i_t (by simpa using e) (M.grdD (by omega) (M.i_bind hp M.i_pure)), rfl, e, by rw [any_take_succ p s e 0, ha, hc]; rfl⟩
        · obtain rfl : i = s.length := by omega
          rw [List.take_length] at ha
          exact .inr ⟨.inr (), M.i_f (by simp) M.i_pure, ha⟩) _ 0 ⟨rfl, Nat.zero_le _, by simp⟩
    obtain ⟨r, h1, h2⟩ := h
    cases r with
    | inl k => exact ⟨k, M.i_bind h1 M.i_pure, by rw [h2.2]; simpa using h2.1⟩
    | inr u => exact ⟨-1, M.i_bind h1 M.i_pure, by dsimp only at h2; rw [h2]; rfl⟩
  obtain ⟨r, h1, h2⟩ := key
  rw [← h2]
  exact M.i_bind h1 M.i_pure
end Go.Proofs.Ytndobgodeicloaa
section
set_option maxRecDepth 100000
set_option maxHeartbeats 16000000
namespace Go.Proofs.Ytndobgodeicloaa
open Go Go.Nm
end Go.Proofs.Ytndobgodeicloaa
end
section
set_option maxRecDepth 100000
set_option maxHeartbeats 16000000
namespace Go.Proofs.Ytndobgodeicloaa
open Go Go.Nm
end Go.Proofs.Ytndobgodeicloaa
end
section
set_option maxRecDepth 100000
set_option maxHeartbeats 16000000
namespace Go.Proofs.Ytndobgodeicloaa
open Go Go.Nm
end Go.Proofs.Ytndobgodeicloaa
end
namespace Go.Nm
open Go
structure Span where
  lo : Int
  hi : Int
deriving DecidableEq, Inhabited
instance : Flat Span where
  rep _ cs x := cs = [I x.lo, I x.hi]
  sz := 2
  agg := true
  sz_pos := by decide
  len := fun h => by subst h; rfl
  mono := fun _ h => h
  one := fun h v hv => by subst h; simp at hv; rcases hv with rfl | rfl <;> rfl
  enc x := [I x.lo, I x.hi]
  rep_iff := Iff.rfl
structure Visit where
  wlo : Int
  whi : Int
  klo : Int
  khi : Int
  opn : Int
  cls : Int
deriving DecidableEq, Inhabited
instance : Flat Visit where
  rep _ cs x := cs = [I x.wlo, I x.whi, I x.klo, I x.khi, I x.opn, I x.cls]
  sz := 6
  agg := true
  sz_pos := by decide
  len := fun h => by subst h; rfl
  mono := fun _ h => h
  one := fun h v hv => by subst h; simp at hv; rcases hv with rfl | rfl | rfl | rfl | rfl | rfl <;> rfl
  enc x := [I x.wlo, I x.whi, I x.klo, I x.khi, I x.opn, I x.cls]
  rep_iff := Iff.rfl
section
variable {P : Program} {w : World}
end
end Go.Nm
section
set_option maxRecDepth 100000
set_option maxHeartbeats 16000000
namespace Go.Proofs.Ytndobgodeicloaa
open Go Go.Nm
end Go.Proofs.Ytndobgodeicloaa
end
namespace Go.Nm
open Go
section
variable {P : Program} {w : World} {σ : Env} {d : Nat} {ty : TypeId} {pos : String} {af : Array Edge} {g : Option (Nat × Bool)}
end
section
variable {P : Program} {all rest : List Oper} {Q : Post} {σ : Env} {w0 w : World} {L L' R : List Chunk} {d : Nat} {ty : TypeId} {pos : String} {af : Array Edge} {g : Option (Nat × Bool)}
end
section
variable {r : Option Nat} {P : Program} {n : Nat} {Q : Post} {σ : Env} {w : World}
end
end Go.Nm
section
set_option maxRecDepth 100000
set_option maxHeartbeats 16000000
namespace Go.Proofs.Ytndobgodeicloaa
open Go Go.Nm
end Go.Proofs.Ytndobgodeicloaa
end
namespace Go.Nm
variable {ws : List Work}
/-- Each of some works is made of the next one. -/
def Pth (ws : List Work) (l : List Int) : Prop := ∀ j, j + 1 < l.length -> l.getD (j + 1) 0 ∈ (ws.getD (l.getD j 0).toNat default).of
/-- A circle. -/
structure Circ (ws : List Work) (l : List Int) : Prop where
  pos : 0 < l.length
  rng : ∀ x ∈ l, 0 <= x /\ x < (ws.length : Int)
  once : l.Nodup
  pth : Pth ws l
  shut : l.getD 0 0 ∈ (ws.getD (l.getD (l.length - 1) 0).toNat default).of
/-- What is met on the way. -/
structure MetOk (ws : List Work) (met : List Int) (i : Int) : Prop where
  rng : ∀ x ∈ met, 0 <= x /\ x < (ws.length : Int)
  once : met.Nodup
  pth : Pth ws met
  last : 0 < met.length -> i ∈ (ws.getD (met.getD (met.length - 1) 0).toNat default).of
  i0 : 0 <= i
  i1 : i < (ws.length : Int)
  iO : i ∉ orderP ws
theorem clL {l r : List Int} {j : Nat} (h : j < l.length) : (l ++ r).getD j 0 = l.getD j 0 := by
  rw [List.getD_eq_getElem?_getD, List.getElem?_append_left h, ← List.getD_eq_getElem?_getD]
theorem clR {l : List Int} {x : Int} : (l ++ [x]).getD l.length 0 = x := by
  rw [List.getD_eq_getElem?_getD, List.getElem?_append_right (Nat.le_refl _)]
  simp
theorem MetOk.next {met : List Int} {i y : Int} (h : MetOk ws met i) (hm : i ∉ met) (hy : y ∈ (ws.getD i.toNat default).of) (h0 : 0 <= y) (h1 : y < (ws.length : Int)) (hO : y ∉ orderP ws) : MetOk ws (met ++ [i]) y := by
  refine ⟨fun x hx => ?_, ?_, fun j hj => ?_, fun _ => ?_, h0, h1, hO⟩
  · rcases List.mem_append.1 hx with hx | hx
    · exact h.rng x hx
    · rw [List.mem_singleton.1 hx]; exact ⟨h.i0, h.i1⟩
  · rw [List.nodup_append]
    exact ⟨h.once, by simp, fun a ha b hb e => hm (by rw [← List.mem_singleton.1 hb, ← e]; exact ha)⟩
  · simp only [List.length_append, List.length_cons, List.length_nil] at hj
    rw [clL (by omega : j < met.length)]
    by_cases e : j + 1 < met.length
    · rw [clL e]
      exact h.pth j e
    · have e2 : j + 1 = met.length := by omega
      rw [e2, clR, show j = met.length - 1 from by omega]
      exact h.last (by omega)
  · rw [show (met ++ [i]).length - 1 = met.length from by simp, clR]
    exact hy
theorem MetOk.lt {met : List Int} {i : Int} (h : MetOk ws met i) (hm : i ∉ met) : met.length < ws.length := by
  have := nodup_bound ws.length (i :: met) (List.nodup_cons.2 ⟨hm, h.once⟩) (fun x hx => by
    rcases List.mem_cons.1 hx with rfl | hx
    · exact ⟨h.i0, h.i1⟩
    · exact h.rng x hx)
  simp only [List.length_cons] at this
  omega
end Go.Nm
namespace Go.Proofs.Ytndobgodeicloaa
open Go Go.Nm
variable {ws : List Work}
theorem indexFunc_out {s : List Int} {f : Int -> M Bool} {p : Int -> Bool} (hf : ∀ x ∈ s, (f x).Ends (p x)) (hp : s.any p = true) :
    (zau s f).Out (fun r => 0 <= r /\ r < (s.length : Int) /\ p (s.getD r.toNat 0) = true) := by
  have h := M.i_loopQ (body := zaj s f) (fun r => match r with | .inl k => 0 <= k /\ k < (s.length : Int) /\ p (s.getD k.toNat 0) = true | .inr _ => s.any p = false)
    (fun m i => m = s.length - i /\ i <= s.length /\ (s.take i).any p = false) (by
      rintro m i ⟨rfl, hi, ha⟩
      simp only [zaj]
      by_cases e : i < s.length
      · have hp := hf _ (getD_memN s (by omega : (i : Int) < _) 0)
        cases hc : p (s.getD i 0) with
        | true =>
          rw [hc] at hp
          exact .inr ⟨.inl (i : Int), M.i_t (by simpa using e) (M.grdD (by omega) (M.i_bind hp M.i_pure)), by omega, by omega, by rw [Int.toNat_natCast]; exact hc⟩
        | false =>
          rw [hc] at hp
          exact .inl ⟨i + 1, s.length - (i + 1), by omega, M.i_t (by simpa using e) (M.grdD (by omega) (M.i_bind hp M.i_pure)), rfl, e, by rw [any_take_succ p s e 0, ha, hc]; rfl⟩
      · obtain rfl : i = s.length := by omega
        rw [List.take_length] at ha
        exact .inr ⟨.inr (), M.i_f (by simp) M.i_pure, ha⟩) _ 0 ⟨rfl, Nat.zero_le _, by simp⟩
  obtain ⟨r, h1, h2⟩ := h
  cases r with
  | inl k => exact ⟨k, M.i_bind h1 M.i_pure, h2⟩
  | inr u => dsimp only at h2; rw [hp] at h2; cases h2
end Go.Proofs.Ytndobgodeicloaa
namespace Go.Nm
variable {ws : List Work} {rev : List Int} {t : Nat} {c : Nat -> Nat -> Int}
/-- What becomes stale, if some works are frozen. -/
inductive Rch (ws : List Work) (rev F : List Int) : Nat -> Prop
  | base {r : Int} (h : r ∈ rev) : Rch ws rev F r.toNat
  | step {k i : Nat} (h : Rch ws rev F k) (hi : i < ws.length) (hm : (k : Int) ∈ (ws.getD i default).of) (hf : (i : Int) ∉ F) : Rch ws rev F i
/-! ### What Freeze returns -/
def frzB (rev : List Int) (t : Nat) (S : Nat -> Bool) (i : Nat) : Bool := (innB rev (t : Int) (i : Int) && S (2 * i)) && !(S (2 * i + 1))
def frzL (rev : List Int) (t : Nat) (S : Nat -> Bool) (n : Nat) : List Int := ((List.range n).filter (frzB rev t S)).map fun i : Nat => (i : Int)
theorem frzL_next (S : Nat -> Bool) (n : Nat) : frzL rev t S (n + 1) = if frzB rev t S n then frzL rev t S n ++ [(n : Int)] else frzL rev t S n := by
  unfold frzL
  rw [List.range_succ, List.filter_append]
  split
  · rename_i h; simp only [List.filter_cons, h, if_true, List.filter_nil, List.map_append, List.map_cons, List.map_nil]
  · rename_i h; simp only [List.filter_cons, h, List.filter_nil, Bool.false_eq_true, if_false, List.append_nil]
theorem frzL_len (S : Nat -> Bool) (n : Nat) : (frzL rev t S n).length <= n := by
  unfold frzL
  rw [List.length_map]
  exact Nat.le_trans (List.length_filter_le _ _) (by simp)
theorem frzL_mem {S : Nat -> Bool} {n : Nat} {x : Int} : x ∈ frzL rev t S n ↔ ∃ i : Nat, i < n /\ frzB rev t S i = true /\ x = (i : Int) := by
  unfold frzL
  simp only [List.mem_map, List.mem_filter, List.mem_range]
  constructor
  · rintro ⟨i, ⟨h1, h2⟩, rfl⟩; exact ⟨i, h1, h2, rfl⟩
  · rintro ⟨i, h1, h2, rfl⟩; exact ⟨i, ⟨h1, h2⟩, rfl⟩
/-- The set that the last search leaves. -/
structure Cut (ws : List Work) (rev : List Int) (t : Nat) (c : Nat -> Nat -> Int) (S : Nat -> Bool) : Prop where
  shut : ShutN (2 * ws.length) c S
  no : S (2 * t) = false
  src : ∀ r ∈ rev, S (2 * r.toNat + 1) = true
/-- No great gate is passed, and as many works are frozen as lines go. -/
theorem cut_count (H : LnHyp ws rev t) (h : Lanes ws rev t c) {S : Nat -> Bool} (hS : Cut ws rev t c S) :
    (∀ k i, k < ws.length -> S (2 * k + 1) = true -> bigP ws rev t ws.length (2 * k + 1) (2 * i) -> S (2 * i) = true) /\ vaL ws rev t c = ((frzL rev t S ws.length).length : Int) := by
  have hl := right_len (opened_right H.opn)
  have hm := Lanes.most H h
  have key := h.full (S := S) (by have := H.tl; omega) hS.no (fun v _ hs => by
    have := srcB_iff.1 hs
    have h2 := hS.src _ this.2
    rw [Int.toNat_natCast] at h2
    rwa [show 2 * (v / 2) + 1 = v from by omega] at h2) (fun u v hu hv h1 h2 => by
      have hn := h.nn u v
      by_cases e : 0 < c u v
      · rw [hS.shut u v hu hv h1 e] at h2; cases h2
      · omega)
  rw [sumN_two, sumN_add] at key
  have hA : ∀ i, i < ws.length -> sumN (fun v => if S (2 * i) && !S v then C0 ws rev t ws.length (2 * i) v else 0) (2 * ws.length) = if frzB rev t S i then 1 else 0 := by
    intro i hi
    rw [sumN_one (k := 2 * i + 1) (fun v _ hne => ?_), if_pos (show 2 * i + 1 < 2 * ws.length from by omega)]
    · unfold frzB
      by_cases hg : gateP rev t ws.length (2 * i) (2 * i + 1)
      · have h3 := hg.2.2.2
        rw [show 2 * i / 2 = i from by omega] at h3
        rw [C0_gate hg, h3]
        rfl
      · have h3 : innB rev (t : Int) (i : Int) = false := by
          cases e : innB rev (t : Int) (i : Int) with
          | false => rfl
          | true => exact absurd ⟨by omega, rfl, by omega, by rw [show 2 * i / 2 = i from by omega]; exact e⟩ hg
        rw [C0_no hg (fun h => by have := h.1; omega), h3, ite_self]
        rfl
    · rw [C0_no (fun h => hne h.2.1) (fun h => by have := h.1; omega)]
      exact ite_self _
  rw [sumN_congr hA, sumN_count] at key
  have hB0 : ∀ i v, 0 <= (if S (2 * i + 1) && !S v then C0 ws rev t ws.length (2 * i + 1) v else 0) := fun i v => by
    have := (C0_nn (ws := ws) (rev := rev) (t := t) ws.length (2 * i + 1) v).1
    split <;> omega
  have hlen : ((frzL rev t S ws.length).length : Int) = (((List.range ws.length).filter fun i => frzB rev t S i).length : Int) := by unfold frzL; rw [List.length_map]
  have hBig : ∀ k i, k < ws.length -> S (2 * k + 1) = true -> bigP ws rev t ws.length (2 * k + 1) (2 * i) -> S (2 * i) = true := by
    intro k i hk h1 h2
    cases h3 : S (2 * i) with
    | true => rfl
    | false =>
      exfalso
      have hi : i < ws.length := by have := h2.2.2.1; omega
      have e1 := sumN_ge (f := fun v => if S (2 * k + 1) && !S v then C0 ws rev t ws.length (2 * k + 1) v else 0) (n := 2 * ws.length) (fun v _ => hB0 k v) (2 * i) (by omega)
      have e2 := sumN_ge (f := fun k => sumN (fun v => if S (2 * k + 1) && !S v then C0 ws rev t ws.length (2 * k + 1) v else 0) (2 * ws.length)) (n := ws.length) (fun k _ => sumN_nn fun v _ => hB0 k v) k hk
      simp only [h1, h3, C0_big h2, Bool.not_false, Bool.and_self, if_true] at e1 e2
      have : flowV (2 * ws.length) (2 * t) (C0 ws rev t ws.length) c < ws.length := hm
      omega
  refine ⟨hBig, ?_⟩
  have hz : sumN (fun i => sumN (fun v => if S (2 * i + 1) && !S v then C0 ws rev t ws.length (2 * i + 1) v else 0) (2 * ws.length)) ws.length = 0 := by
    refine sumN_zero' fun k hk => sumN_zero' fun v hv => ?_
    cases h1 : S (2 * k + 1) with
    | false => rfl
    | true =>
      cases h2 : S v with
      | true => rfl
      | false =>
        rw [C0_no (fun h => by have := h.1; omega) (fun h => ?_)]
        · rfl
        · have hv2 : v = 2 * (v / 2) := by have := h.2.1; omega
          rw [hv2] at h h2
          rw [hBig k (v / 2) hk h1 h] at h2
          cases h2
  rw [hz, Int.add_zero] at key
  rw [hlen]
  exact key
/-- Works that keep a work. -/
structure Froz (ws : List Work) (rev : List Int) (t : Nat) (l : List Int) : Prop where
  rng : ∀ x ∈ l, 0 <= x /\ x < (ws.length : Int) /\ x ≠ (t : Int) /\ x ∉ rev
  asc : ∀ j, 1 <= j -> j < l.length -> l.getD (j - 1) 0 < l.getD j 0
  keep : ¬ Rch ws rev l t
theorem frzL_pair (S : Nat -> Bool) (n : Nat) : (frzL rev t S n).Pairwise (· < ·) := by
  unfold frzL
  rw [List.pairwise_map]
  have : (List.range n).Pairwise (· < ·) := List.pairwise_lt_range
  exact (this.sublist (List.filter_sublist)).imp fun h => by omega
theorem pair_asc {l : List Int} (h : l.Pairwise (· < ·)) : ∀ j, 1 <= j -> j < l.length -> l.getD (j - 1) 0 < l.getD j 0 := by
  intro j h1 h2
  have := List.pairwise_iff_getElem.1 h (j - 1) j (by omega) h2 (by omega)
  rwa [getD_el l (by omega) 0, getD_el l h2 0]
theorem cut_froz (H : LnHyp ws rev t) (h : Lanes ws rev t c) {S : Nat -> Bool} (hS : Cut ws rev t c S) : Froz ws rev t (frzL rev t S ws.length) := by
  have hR := opened_right H.opn
  obtain ⟨hBig, _⟩ := cut_count H h hS
  refine ⟨fun x hx => ?_, pair_asc (frzL_pair S ws.length), fun hr => ?_⟩
  · obtain ⟨i, hi, hb, rfl⟩ := frzL_mem.1 hx
    unfold frzB at hb
    simp only [Bool.and_eq_true] at hb
    have := innB_iff.1 hb.1.1
    exact ⟨by omega, by omega, this.1, this.2⟩
  · have key : ∀ k, Rch ws rev (frzL rev t S ws.length) k -> k ≠ t /\ k < ws.length /\ S (2 * k + 1) = true := by
      intro k hk
      induction hk with
      | base hr =>
        have hr2 := H.rng _ hr
        refine ⟨fun e => H.nt ?_, by omega, hS.src _ hr⟩
        rw [← e, Int.toNat_of_nonneg hr2.1]
        exact hr
      | @step k i _ hi hm hf ih =>
        obtain ⟨h1, h2, h3⟩ := ih
        by_cases hit : i = t
        · have hb : bigP ws rev t ws.length (2 * k + 1) (2 * i) := ⟨by omega, by omega, by omega, by rw [show (2 * k + 1) / 2 = k from by omega, show 2 * i / 2 = i from by omega]; exact hm, by omega, .inl (by omega)⟩
          have := hBig k i h2 h3 hb
          rw [hit, hS.no] at this
          cases this
        · refine ⟨hit, hi, ?_⟩
          by_cases hir : (i : Int) ∈ rev
          · have := hS.src _ hir
            rwa [Int.toNat_natCast] at this
          · have hin : innB rev (t : Int) (i : Int) = true := innB_iff.2 ⟨by omega, hir⟩
            have hb : bigP ws rev t ws.length (2 * k + 1) (2 * i) := ⟨by omega, by omega, by omega, by rw [show (2 * k + 1) / 2 = k from by omega, show 2 * i / 2 = i from by omega]; exact hm, by omega, .inr (by rw [show 2 * i / 2 = i from by omega]; exact hin)⟩
            have h4 := hBig k i h2 h3 hb
            cases h5 : S (2 * i + 1) with
            | true => rfl
            | false =>
              refine absurd (frzL_mem.2 ⟨i, hi, ?_, rfl⟩) hf
              unfold frzB
              rw [hin, h4, h5]
              rfl
    exact (key t hr).1 rfl
end Go.Nm
namespace Go.Proofs.Ytndobgodeicloaa
open Go Go.Nm
variable {ws : List Work} {rev : List Int} {t : Nat}
theorem freeze_last (H : LnHyp ws rev t) {mp : Gate -> Option Int} (hF : FullL ws rev t (roomN mp)) :
    (M.iter (zay ws rev (t : Int)) (mp, (fun _ => none), 0)).Out (fun r => r.1 = mp /\ Cut ws rev t (roomN mp) (fun x => (r.2 (x : Int)).getD false)) := by
  have hl := right_len (opened_right H.opn)
  have ht := H.tl
  refine M.o_for rev.length (fun i st => st.2.2 = i /\ st.1 = mp /\ ShutN (2 * ws.length) (roomN mp) (fun x => (st.2.1 (x : Int)).getD false) /\ ¬ mt st.2.1 ((2 * t : Nat) : Int) /\ ∀ j, j < i -> mt st.2.1 ((2 * (rev.getD j 0).toNat + 1 : Nat) : Int)) ?_ ?_ (s := (mp, (fun _ => none), 0)) ⟨rfl, rfl, fun u v _ _ h => by simp at h, mt_none _, fun j hj => by omega⟩
  · rintro i ⟨c, m, s⟩ hi ⟨rfl, rfl, hsh, hno, hdone⟩
    dsimp only at hi hsh hno hdone ⊢
    have hrm := getD_memN rev (by omega : (s : Int) < _) 0
    have hr := H.rng _ hrm
    simp only [zay]
    generalize hq : rev.getD s 0 = q at *
    obtain ⟨rn, rfl⟩ := Int.eq_ofNat_of_zero_le hr.1
    have he : (2 * ((rn : Nat) : Int)) + 1 = ((2 * rn + 1 : Nat) : Int) := by omega
    rw [he]
    refine M.o_t (by simpa using hi) (M.o_grdD (by omega) (M.o_grd (gA2 (by omega) (by omega)) (M.o_grd (gA2 (by omega) (by omega)) (M.o_bind (goes_out ht (by omega) ((unmet (2 * ws.length) (updF m ((2 * rn + 1 : Nat) : Int) true)).toNat + 1) (2 * rn + 1) c m hF.flow.bd (by omega) hno (by omega)) ?_))))
    rintro ⟨b, c', m'⟩ (⟨rfl, rfl, hne, hG⟩ | ⟨rfl, l, hG⟩)
    · dsimp only at hG ⊢
      refine M.o_pure ⟨rfl, rfl, fun u v hu hv h1 h2 => ?_, hG.no, fun j hj => ?_⟩
      · rcases hG.cl u h1 with h | h
        · exact hG.up v (hsh u v hu hv h h2)
        · exact h v hv h2
      · by_cases e : j = s
        · subst e
          rw [hq, Int.toNat_natCast]
          exact hG.at_
        · exact hG.up _ (hdone j (by omega))
    · exfalso
      obtain ⟨S, h1, h2, h3⟩ := hF.shut _ hrm
      rw [Int.toNat_natCast] at h3
      rw [Pa.out h1 h2 l (2 * rn + 1) hG.pa hG.rng hG.last _ (by simp)] at h3
      cases h3
  · rintro ⟨c, m, s⟩ ⟨rfl, rfl, hsh, hno, hdone⟩
    dsimp only at hsh hno hdone ⊢
    simp only [zay]
    refine M.o_f (by simp) (M.o_pure ⟨rfl, hsh, ?_, fun r hr => ?_⟩)
    · unfold Nm.mt at hno
      simpa using hno
    · obtain ⟨j, hj, rfl⟩ := mem_getD hr 0
      exact hdone j hj
theorem freeze_list (hn : ws.length <= 1000) (mp : Gate -> Option Int) (m : Int -> Option Bool) :
    (M.iter (zaR ws rev (t : Int) mp m) (0, [])).Ends (frzL rev t (fun x => (m (x : Int)).getD false) ws.length, frzL rev t (fun x => (m (x : Int)).getD false) ws.length) := by
  refine M.i_for (fun i => (i, frzL rev t (fun x => (m (x : Int)).getD false) i)) ws.length (fun i hi => ?_) ?_
  · have hin : (zah ws rev (t : Int) mp m (i : Int)).Ends (innB rev (t : Int) (i : Int)) := M.i_pure
    have hll := frzL_len (rev := rev) (t := t) (fun x => (m (x : Int)).getD false) i
    have hb : ((innB rev (t : Int) (i : Int) && ((m (2 * (i : Int))).getD false)) && (!((m ((2 * (i : Int)) + 1 : Int)).getD false))) = frzB rev t (fun x => (m (x : Int)).getD false) i := by
      unfold frzB
      dsimp only
      rw [show ((2 * i : Nat) : Int) = 2 * (i : Int) from by omega, show ((2 * i + 1 : Nat) : Int) = 2 * (i : Int) + 1 from by omega]
    simp only [zaR]
    rw [frzL_next]
    refine M.i_t (by simpa using hi) (M.i_bind hin (M.i_grd (gOr2 (by omega) (by omega)) (M.i_grd (gOr2 (by omega) (by omega)) (M.i_grd (gOr2 (by omega) (by omega)) ?_))))
    rw [hb]
    cases frzB rev t (fun x => (m (x : Int)).getD false) i with
    | true => exact M.i_t rfl (M.grdD (by simp only [List.length_cons, List.length_nil]; omega) M.i_pure)
    | false => exact M.i_f rfl M.i_pure
  · simp only [zaR]
    exact M.i_f (by simp) M.i_pure
end Go.Proofs.Ytndobgodeicloaa
namespace Go.Nm
variable {ws : List Work} {rev : List Int} {t : Nat} {c : Nat -> Nat -> Int}
/-- A line went from one work to another one. -/
def nx (c : Nat -> Nat -> Int) (i k : Nat) : Prop := 0 < c (2 * k) (2 * i + 1) /\ k ≠ i
theorem C0_even {n i k : Nat} (h : k ≠ i) : C0 ws rev t n (2 * k) (2 * i + 1) = 0 := C0_no (fun h' => h (by have := h'.2.1; omega)) (fun h' => by have := h'.1; omega)
theorem Lanes.back (h : Lanes ws rev t c) {i k : Nat} (hn : k ≠ i) : C0 ws rev t ws.length (2 * i + 1) (2 * k) - c (2 * i + 1) (2 * k) = c (2 * k) (2 * i + 1) := by
  have := h.skew (2 * i + 1) (2 * k)
  rw [C0_even (ws := ws) (rev := rev) (t := t) hn] at this
  omega
theorem nx_big (h : Lanes ws rev t c) {i k : Nat} (hx : nx c i k) : (i : Int) ∈ (ws.getD k default).of /\ k < ws.length /\ i ≠ t /\ (k = t ∨ innB rev (t : Int) (k : Int) = true) := by
  have h1 := Lanes.back h hx.2
  have h2 := h.nn (2 * i + 1) (2 * k)
  have h3 := hx.1
  by_cases hb : bigP ws rev t ws.length (2 * i + 1) (2 * k)
  · have a := hb.2.2
    rw [show (2 * i + 1) / 2 = i from by omega, show 2 * k / 2 = k from by omega] at a
    exact ⟨a.2.1, a.1, a.2.2.1, a.2.2.2⟩
  · rw [C0_no (fun h => by have := h.1; omega) hb] at h1
    omega
theorem flow_eq0 (h : Lanes ws rev t c) {u v : Nat} (hp : u % 2 = v % 2) : C0 ws rev t ws.length u v - c u v = 0 := by
  have h1 : ∀ u v, u % 2 = v % 2 -> C0 ws rev t ws.length u v = 0 := fun u v hp => C0_no (fun h => by have := h.2.1; omega) (fun h => by have := h.1; have := h.2.1; omega)
  have h2 := h.skew u v
  have h3 := h.nn u v
  have h4 := h.nn v u
  rw [h1 u v hp, h1 v u hp.symm] at h2
  rw [h1 u v hp]
  omega
theorem C0_own {i : Nat} (hi : i < ws.length) (hin : innB rev (t : Int) (i : Int) = true) : C0 ws rev t ws.length (2 * i) (2 * i + 1) = 1 := C0_gate ⟨by omega, rfl, by omega, by rw [show 2 * i / 2 = i from by omega]; exact hin⟩
theorem inn_ne {i : Nat} (hin : innB rev (t : Int) (i : Int) = true) : i ≠ t /\ (i : Int) ∉ rev := by
  have := innB_iff.1 hin
  exact ⟨by omega, this.2⟩
/-- What comes to a work. -/
theorem sum_in (h : Lanes ws rev t c) {i : Nat} (hi : i < ws.length) (hin : innB rev (t : Int) (i : Int) = true) : sumN (fun k => if k = i then 0 else c (2 * i) (2 * k + 1)) ws.length = 1 - c (2 * i) (2 * i + 1) := by
  have hne := inn_ne hin
  have hc := h.cons (2 * i) (by omega) (by unfold srcB; rw [show decide ((2 * i) % 2 = 1) = false from by simp]; rfl) (by omega)
  rw [sumN_two] at hc
  have e : ∀ k, k < ws.length -> (C0 ws rev t ws.length (2 * k) (2 * i) - c (2 * k) (2 * i) + (C0 ws rev t ws.length (2 * k + 1) (2 * i) - c (2 * k + 1) (2 * i))) = (if k = i then 0 else c (2 * i) (2 * k + 1)) - (if k = i then 1 - c (2 * i) (2 * i + 1) else 0) := by
    intro k hk
    rw [flow_eq0 h (by omega)]
    by_cases e : k = i
    · subst e
      rw [if_pos rfl, if_pos rfl]
      have h1 := h.skew (2 * k) (2 * k + 1)
      have h2 := C0_own (t := t) hi hin
      omega
    · rw [if_neg e, if_neg e, Lanes.back h (fun h' => e h'.symm)]
      omega
  rw [sumN_congr e, sumN_sub, sumN_one (k := i) (f := fun k => if k = i then 1 - c (2 * i) (2 * i + 1) else 0) (fun k _ hk => if_neg hk), if_pos hi, if_pos rfl] at hc
  omega
/-- What goes on from a work. -/
theorem sum_out (h : Lanes ws rev t c) {i : Nat} (hi : i < ws.length) (hin : innB rev (t : Int) (i : Int) = true) : sumN (fun k => if k = i then 0 else c (2 * k) (2 * i + 1)) ws.length = 1 - c (2 * i) (2 * i + 1) := by
  have hne := inn_ne hin
  have hc := h.cons (2 * i + 1) (by omega) (by
    cases e : srcB rev (2 * i + 1) with
    | false => rfl
    | true =>
      have := (srcB_iff.1 e).2
      rw [show (2 * i + 1) / 2 = i from by omega] at this
      exact absurd this hne.2) (by omega)
  rw [sumN_two] at hc
  have e : ∀ k, k < ws.length -> (C0 ws rev t ws.length (2 * k) (2 * i + 1) - c (2 * k) (2 * i + 1) + (C0 ws rev t ws.length (2 * k + 1) (2 * i + 1) - c (2 * k + 1) (2 * i + 1))) = (if k = i then 1 - c (2 * i) (2 * i + 1) else 0) - (if k = i then 0 else c (2 * k) (2 * i + 1)) := by
    intro k hk
    rw [flow_eq0 (u := 2 * k + 1) (v := 2 * i + 1) h (by omega)]
    by_cases e : k = i
    · subst e
      rw [if_pos rfl, if_pos rfl, C0_own (t := t) hi hin]
      omega
    · rw [if_neg e, if_neg e, C0_even e]
      omega
  rw [sumN_congr e, sumN_sub, sumN_one (k := i) (f := fun k => if k = i then 1 - c (2 * i) (2 * i + 1) else 0) (fun k _ hk => if_neg hk), if_pos hi, if_pos rfl] at hc
  omega
theorem in_nn (h : Lanes ws rev t c) (i : Nat) : ∀ k, k < ws.length -> 0 <= (if k = i then 0 else c (2 * i) (2 * k + 1)) := fun k _ => by
  have := h.nn (2 * i) (2 * k + 1)
  split <;> omega
theorem nx_in (h : Lanes ws rev t c) {i j : Nat} (hi : i < ws.length) (hj : j < ws.length) (hin : innB rev (t : Int) (i : Int) = true) (hx : nx c j i) : c (2 * i) (2 * j + 1) = 1 /\ c (2 * i) (2 * i + 1) = 0 := by
  have h1 := sum_in h hi hin
  have h2 := sumN_ge (in_nn h i) j hj
  have h3 := h.nn (2 * i) (2 * i + 1)
  have h4 := hx.1
  rw [h1, if_neg (fun e => hx.2 e.symm)] at h2
  omega
theorem nx_one (h : Lanes ws rev t c) {i j k : Nat} (hi : i < ws.length) (hj : j < ws.length) (hk : k < ws.length) (hin : innB rev (t : Int) (i : Int) = true) (hx : nx c j i) (hy : nx c k i) : j = k := by
  have h1 := sum_in h hi hin
  have h3 := h.nn (2 * i) (2 * i + 1)
  have h4 := hx.1
  have h5 := hy.1
  have key : ∀ a b, a < b -> b < ws.length -> 0 < c (2 * i) (2 * a + 1) -> i ≠ a -> 0 < c (2 * i) (2 * b + 1) -> i ≠ b -> False := by
    intro a b hab hb p1 p2 p3 p4
    have := sumN_ge2 (in_nn h i) a b hab hb
    rw [h1, if_neg (fun e => p2 e.symm), if_neg (fun e => p4 e.symm)] at this
    omega
  by_cases e1 : j < k
  · exact (key j k e1 hk h4 hx.2 h5 hy.2).elim
  · by_cases e2 : k < j
    · exact (key k j e2 hj h5 hy.2 h4 hx.2).elim
    · omega
theorem nx_out (h : Lanes ws rev t c) {i : Nat} (hi : i < ws.length) (hin : innB rev (t : Int) (i : Int) = true) (hz : c (2 * i) (2 * i + 1) = 0) : ∃ k, k < ws.length /\ nx c i k := by
  have h1 := sum_out h hi hin
  rw [hz] at h1
  obtain ⟨k, hk, h2⟩ := sumN_pos (f := fun k => if k = i then 0 else c (2 * k) (2 * i + 1)) (n := ws.length) (by rw [h1]; decide)
  by_cases e : k = i
  · simp only [e, if_true] at h2; omega
  · simp only [if_neg e] at h2
    exact ⟨k, hk, h2, e⟩
/-! ### Chains -/
/-- Each work of a list leads on to the next one. -/
def Chn (c : Nat -> Nat -> Int) (l : List Int) : Prop := ∀ j, j + 1 < l.length -> nx c (l.getD j 0).toNat (l.getD (j + 1) 0).toNat
/-- A line that went: from a revised work, by works that can be frozen, to the work. -/
structure Went (ws : List Work) (rev : List Int) (t : Nat) (c : Nat -> Nat -> Int) (l : List Int) : Prop where
  chn : Chn c l
  two : 2 <= l.length
  rng : ∀ x ∈ l, 0 <= x /\ x < (ws.length : Int)
  head : l.getD 0 0 ∈ rev
  mid : ∀ j, 1 <= j -> j + 1 < l.length -> innB rev (t : Int) (l.getD j 0) = true
/-- A line as the law wants it. -/
structure LineA (ws : List Work) (rev : List Int) (t : Nat) (l : List Int) : Prop where
  two : 2 <= l.length
  rng : ∀ x ∈ l, 0 <= x /\ x < (ws.length : Int)
  line : lineB ws l = true
  head : l.getD 0 0 ∈ rev
  last : l.getD (l.length - 1) 0 = (t : Int)
  mid : ∀ j, 1 <= j -> j + 1 < l.length -> innB rev (t : Int) (l.getD j 0) = true
theorem lineB_of : ∀ {l : List Int}, (∀ j, j + 1 < l.length -> l.getD j 0 ∈ (ws.getD (l.getD (j + 1) 0).toNat default).of) -> lineB ws l = true
  | [], _ => rfl
  | [_], _ => rfl
  | a :: b :: l, h => by
    have h0 := h 0 (by simp)
    have ih := lineB_of (l := b :: l) (fun j hj => by have := h (j + 1) (by simp only [List.length_cons] at hj ⊢; omega); simpa using this)
    show ((ws.getD b.toNat default).of.contains a && lineB ws (b :: l)) = true
    rw [ih, Bool.and_true, List.contains_iff_mem]
    exact h0
theorem lineB_step : ∀ {l : List Int}, lineB ws l = true -> ∀ j, j + 1 < l.length -> l.getD j 0 ∈ (ws.getD (l.getD (j + 1) 0).toNat default).of
  | [], _, j, hj => by simp at hj
  | [_], _, j, hj => by simp at hj
  | a :: b :: l, h, j, hj => by
    have h' : ((ws.getD b.toNat default).of.contains a && lineB ws (b :: l)) = true := h
    rw [Bool.and_eq_true, List.contains_iff_mem] at h'
    cases j with
    | zero => exact h'.1
    | succ j =>
      have := lineB_step h'.2 j (by simp only [List.length_cons] at hj ⊢; omega)
      simpa using this
theorem Went.line (h : Lanes ws rev t c) {l : List Int} (hW : Went ws rev t c l) : lineB ws l = true := lineB_of fun j hj => by
  have hx := nx_big h (hW.chn j hj)
  have hr := hW.rng _ (getD_memN l (by omega : (j : Int) < _) 0)
  rw [Int.toNat_of_nonneg hr.1] at hx
  exact hx.1
/-- Two works of lines that are the same come from the same first steps. -/
theorem went_same (h : Lanes ws rev t c) {l m : List Int} (hl : Went ws rev t c l) (hm : Went ws rev t c m) : ∀ a b, 1 <= a -> 1 <= b -> a + 1 < l.length -> b + 1 < m.length -> l.getD a 0 = m.getD b 0 -> l.getD 0 0 = m.getD 0 0 /\ l.getD 1 0 = m.getD 1 0 := by
  intro a
  induction a with
  | zero => intro b h1; omega
  | succ a ih =>
    intro b _ hb h3 h4 he
    obtain ⟨b, rfl⟩ : ∃ b', b = b' + 1 := ⟨b - 1, by omega⟩
    have hx := hl.chn a (by omega)
    have hy := hm.chn b (by omega)
    have hin := hl.mid (a + 1) (by omega) h3
    have r0 := hl.rng _ (getD_memN l (by omega : ((a + 1 : Nat) : Int) < _) 0)
    have r1 := hl.rng _ (getD_memN l (by omega : (a : Int) < _) 0)
    have r2 := hm.rng _ (getD_memN m (by omega : (b : Int) < _) 0)
    rw [← he] at hy
    rw [← Int.toNat_of_nonneg r0.1] at hin
    have hu := nx_one h (by omega) (by omega) (by omega) hin hx hy
    have hu' : l.getD a 0 = m.getD b 0 := by omega
    by_cases ea : a = 0
    · by_cases eb : b = 0
      · subst ea; subst eb; exact ⟨hu', he⟩
      · subst ea
        have h5 := (innB_iff.1 (hm.mid b (by omega) (by omega))).2
        rw [← hu'] at h5
        exact absurd hl.head h5
    · by_cases eb : b = 0
      · subst eb
        have h5 := (innB_iff.1 (hl.mid a (by omega) (by omega))).2
        rw [hu'] at h5
        exact absurd hm.head h5
      · exact ih b (by omega) (by omega) (by omega) (by omega) hu'
/-- Lines that are apart. -/
def midL (l : List Int) : List Int := (l.drop 1).dropLast
theorem midL_mem {l : List Int} {x : Int} : x ∈ midL l ↔ ∃ j, 1 <= j /\ j + 1 < l.length /\ l.getD j 0 = x := by
  unfold midL
  rw [List.mem_iff_getElem]
  constructor
  · rintro ⟨i, hi, rfl⟩
    simp only [List.length_dropLast, List.length_drop] at hi
    refine ⟨i + 1, by omega, by omega, ?_⟩
    rw [List.getElem_dropLast, List.getElem_drop, getD_el l (by omega) 0]
    congr 1
    omega
  · rintro ⟨j, h1, h2, rfl⟩
    refine ⟨j - 1, by simp only [List.length_dropLast, List.length_drop]; omega, ?_⟩
    rw [List.getElem_dropLast, List.getElem_drop, getD_el l (by omega) 0]
    congr 1
    omega
structure ApartA (ws : List Work) (rev : List Int) (t : Nat) (ls : List (List Int)) : Prop where
  each : ∀ l ∈ ls, LineA ws rev t l
  two : ls.Pairwise fun a b => ∀ x ∈ midL a, x ∉ midL b
/-- What keeps a work meets each line. -/
theorem line_meets {F l : List Int} (hl : LineA ws rev t l) (hF : ∀ x ∈ F, x ≠ (t : Int) /\ x ∉ rev) (hk : ¬ Rch ws rev F t) : ∃ x ∈ midL l, x ∈ F := by
  refine Classical.byContradiction fun hc => hk ?_
  have h2 := hl.two
  have key : ∀ j, j < l.length -> Rch ws rev F (l.getD j 0).toNat := by
    intro j
    induction j with
    | zero => intro _; exact .base hl.head
    | succ j ih =>
      intro hj
      have r0 := hl.rng _ (getD_memN l (by omega : (j : Int) < _) 0)
      have r1 := hl.rng _ (getD_memN l (by omega : ((j + 1 : Nat) : Int) < _) 0)
      refine .step (ih (by omega)) (by omega) (by rw [Int.toNat_of_nonneg r0.1]; exact lineB_step hl.line j hj) ?_
      rw [Int.toNat_of_nonneg r1.1]
      intro hm
      by_cases e : j + 2 < l.length
      · exact hc ⟨_, midL_mem.2 ⟨j + 1, by omega, e, rfl⟩, hm⟩
      · have := hl.last
        rw [show l.length - 1 = j + 1 from by omega] at this
        exact (hF _ hm).1 this
  have := key (l.length - 1) (by omega)
  rwa [hl.last, Int.toNat_natCast] at this
/-- No fewer works keep a work than lines are apart. -/
theorem apart_le {F : List Int} (hF : ∀ x ∈ F, x ≠ (t : Int) /\ x ∉ rev) (hk : ¬ Rch ws rev F t) : ∀ {ls : List (List Int)}, ApartA ws rev t ls -> ∃ xs : List Int, xs.length = ls.length /\ xs.Nodup /\ (∀ x ∈ xs, x ∈ F) /\ ∀ x ∈ xs, ∃ l ∈ ls, x ∈ midL l
  | [], _ => ⟨[], rfl, List.nodup_nil, fun x h => by simp at h, fun x h => by simp at h⟩
  | l :: ls, h => by
    obtain ⟨xs, h1, h2, h3, h4⟩ := apart_le hF hk (ls := ls) ⟨fun m hm => h.each m (List.mem_cons_of_mem _ hm), (List.pairwise_cons.1 h.two).2⟩
    obtain ⟨x, hx, hxF⟩ := line_meets (h.each l (by simp)) hF hk
    refine ⟨x :: xs, by simp [h1], List.nodup_cons.2 ⟨fun hm => ?_, h2⟩, fun y hy => ?_, fun y hy => ?_⟩
    · obtain ⟨m, hm1, hm2⟩ := h4 x hm
      exact (List.pairwise_cons.1 h.two).1 m hm1 x hx hm2
    · rcases List.mem_cons.1 hy with rfl | hy
      · exact hxF
      · exact h3 y hy
    · rcases List.mem_cons.1 hy with rfl | hy
      · exact ⟨l, by simp, hx⟩
      · obtain ⟨m, hm1, hm2⟩ := h4 y hy
        exact ⟨m, List.mem_cons_of_mem _ hm1, hm2⟩
theorem apart_few {F : List Int} {ls : List (List Int)} (hF : ∀ x ∈ F, x ≠ (t : Int) /\ x ∉ rev) (hk : ¬ Rch ws rev F t) (h : ApartA ws rev t ls) : ls.length <= F.length := by
  obtain ⟨xs, h1, h2, h3, _⟩ := apart_le hF hk h
  rw [← h1]
  exact nodup_sub xs F h2 h3
end Go.Nm
