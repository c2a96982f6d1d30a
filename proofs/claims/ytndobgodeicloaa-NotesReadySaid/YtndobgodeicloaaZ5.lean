/- Part 5 of the texts on which the proof rests. Conditions: none. -/
import Derived.Test.YtndobgodeicloaaZ4
set_option linter.unusedVariables false
set_option linter.unusedSimpArgs false
set_option linter.unusedSectionVars false
section
set_option maxRecDepth 100000
set_option maxHeartbeats 16000000
namespace Go.Proofs.Ytndobgodeicloaa
open Go Go.Nm
def m_nilometerlaw13_awake : M Bool :=
  M.bind (m_nilometerlaw13_Six) fun r2 =>
  M.bind (M.pure (valuesR r2 ([(⟨(0 : Int), (2 : Int), (7 : Int)⟩ : Note), (⟨(1 : Int), (0 : Int), (9 : Int)⟩ : Note)]), valuesE r2 ([(⟨(0 : Int), (2 : Int), (7 : Int)⟩ : Note), (⟨(1 : Int), (0 : Int), (9 : Int)⟩ : Note)]))) fun (l, e) =>
  M.bind (m_nilometerlaw13_Six) fun r3 =>
  M.bind (M.pure (staleR r3 ([(0 : Int)]), askedE r3 ([(0 : Int)]))) fun (l2, e2) =>
  M.bind (m_nilometerlaw13_Six) fun r4 =>
  M.bind (M.pure (readyR r4 ([(1 : Int)]), askedE r4 ([(1 : Int)]))) fun (l3, e3) =>
  M.bind (m_nilometerlaw13_Six) fun r5 =>
  M.bind (M.pure (longestR r5 ([(0 : Int)]), longestE r5 ([(0 : Int)]))) fun (l4, e4) =>
  M.bind (M.pure (decide (l = ([(7 : Int), (9 : Int), (26 : Int), (10 : Int), (47 : Int), (48 : Int)])))) fun s =>
  M.bind (M.pure (decide (l2 = ([(0 : Int), (2 : Int), (4 : Int), (5 : Int)])))) fun s2 =>
  M.bind (M.pure (decide (l3 = ([(-1 : Int), (6 : Int), (16 : Int), (36 : Int), (56 : Int), (57 : Int)])))) fun s3 =>
  M.bind (M.pure (decide (l4 = ([(0 : Int), (2 : Int), (4 : Int), (5 : Int)])))) fun s4 =>
  bif ((((((((e != 0) || (e2 != 0)) || (e3 != 0)) || (e4 != 0)) || (!s)) || (!s2)) || (!s3)) || (!s4)) then (
  M.pure false)
  else (
  M.bind (m_nilometerlaw13_Six) fun r6 =>
  M.bind (m_notes_Fences r6 ([(0 : Int)]) ([(0 : Int), (2 : Int), (4 : Int), (5 : Int)])) fun (r0, r1) =>
  M.bind (m_nilometerlaw13_Six) fun r7 =>
  M.bind (m_notes_Fences r7 ([(0 : Int)]) ([(0 : Int), (2 : Int), (4 : Int)])) fun (r02, r12) =>
  M.bind (m_nilometerlaw13_Six) fun r8 =>
  M.bind (m_notes_Freeze r8 ([(1 : Int)]) 4) fun (r03, r13) =>
  M.bind (m_nilometerlaw13_Six) fun r9 =>
  M.bind (m_notes_Lines r9 ([(1 : Int)]) 4) fun (r04, r14) =>
  M.bind (m_nilometerlaw13_Six) fun r10 =>
  M.bind (m_notes_Freeze r10 ([(1 : Int)]) 3) fun (r05, r15) =>
  M.bind (M.pure (decide (r03 = ([(2 : Int), (3 : Int)])))) fun s5 =>
  bif (((((((((r1 != 0) || (r12 != 0)) || (r13 != 0)) || (r14 != 0)) || (r15 != 5)) || (!r0)) || r02) || (!s5)) || ((r04.length : Int) != 2)) then (
  M.pure false)
  else (
  M.bind (m_nilometerlaw13_Six) fun r11 =>
  M.bind (M.pure (withdrawnR r11 ([(⟨(0 : Int), (3 : Int), (8 : Int)⟩ : Note), (⟨(0 : Int), (2 : Int), (7 : Int)⟩ : Note), (⟨(1 : Int), (0 : Int), (9 : Int)⟩ : Note)]) ([(⟨(2 : Int), (26 : Int)⟩ : Pub), (⟨(3 : Int), (10 : Int)⟩ : Pub)]), withdrawnE r11 ([(⟨(0 : Int), (3 : Int), (8 : Int)⟩ : Note), (⟨(0 : Int), (2 : Int), (7 : Int)⟩ : Note), (⟨(1 : Int), (0 : Int), (9 : Int)⟩ : Note)]) ([(⟨(2 : Int), (26 : Int)⟩ : Pub), (⟨(3 : Int), (10 : Int)⟩ : Pub)]))) fun (l5, e5) =>
  M.bind (M.pure (decide (l5 = ([(0 : Int)])))) fun s6 =>
  M.pure ((e5 == 0) && s6)))
theorem nilometerlaw13_awake_ok {R : List Chunk}    {r : Bool} (hM : (m_nilometerlaw13_awake).Ends r) (w : World) (H : St w w [] R) : Ret Try.prog 17 #[] w fun v w' => ∃ (y0 : Bool), y0 = r ∧ v = B y0 ∧ St w w' [] R := by
 refine ret_of_W Try.func17 rfl rfl rfl ?_
 refine sQ rfl <| sA (B false) rfl <| s_nil <| sQ rfl ?_
 obtain ⟨r2z, hx1z, hM⟩ := M.e_bind hM
 refine s_call cf79 [] rfl (nilometerlaw13_Six_ok hx1z _ (St.give (T := []) H rfl)) ?_
 rintro vq w3z ⟨r2, u0_1, rr1_2, Bs2_3, hr4z, hvq, H2_, hf5z⟩
 subst hr4z
 subst vq
 try dsimp only at hM
 replace H : St w w3z [cOwn (α := Raw 2) 60 u0_1 rr1_2, cRo Bs2_3] R := H.back H2_ rfl
 clear H2_
 refine s_val (x_bld (ps := [(0, I 0), (1, I 2), (2, I 7)]) (zs := [I 0, I 0, I 0]) (L' := [I 0, I 2, I 7]) rfl Try.underlying30 Al30 rfl (Bd30 Try.underlying30) (.cons (cs := [I 0]) rfl rfl rfl rfl rfl <| .cons (cs := [I 2]) rfl rfl rfl rfl rfl <| .cons (cs := [I 7]) rfl rfl rfl rfl rfl <| .nil)) <| s_val (x_bld (ps := [(0, I 1), (2, I 9)]) (zs := [I 0, I 0, I 0]) (L' := [I 1, I 0, I 9]) rfl Try.underlying30 Al30 rfl (Bd30 Try.underlying30) (.cons (cs := [I 1]) rfl rfl rfl rfl rfl <| .cons (cs := [I 9]) rfl rfl rfl rfl rfl <| .nil)) ?_
 refine t_bs (α := Note) T23 [.agg #[I 0, I 2, I 7], .agg #[I 1, I 0, I 9]] [(⟨(0 : Int), (2 : Int), (7 : Int)⟩ : Note), (⟨(1 : Int), (0 : Int), (9 : Int)⟩ : Note)] H rfl (.cons rfl (Flat.rep_enc _ (⟨(0 : Int), (2 : Int), (7 : Int)⟩ : Note)) <| .cons rfl (Flat.rep_enc _ (⟨(1 : Int), (0 : Int), (9 : Int)⟩ : Note)) <| .nil) rfl rfl rfl ?_
 intro v6z w7z H
 obtain ⟨⟨l, e⟩, hx11z, hM⟩ := M.e_bind hM
 obtain ⟨hq12z, hq13z⟩ := Prod.mk.inj (M.e_pure hx11z)
 try dsimp only at hM
 refine s_call cf21 [u0_1, v6z] rfl (by have hc_ := (Values_any _ ((rowSl rfl (H.get (k := 1) rfl) (roLe _ (H.get (k := 2) rfl)) hf5z).mono (Cells.sup_le (ownLe _ (H.get (k := 1) rfl)) (roLe _ (H.get (k := 2) rfl)))) ((ownSl (H.get (k := 0) rfl)).mono (ownLe _ (H.get (k := 0) rfl)))); rw [hq12z, hq13z] at hc_; exact hc_) ?_
 rintro _ w8z ⟨u9z, rfl, hs10z, hx_⟩
 obtain ⟨Bs_5, H, hs10z⟩ := H.fresh hx_ hs10z
 clear hx_
 have hl_hs10z := hs10z.len_le
 refine sM (.tuple #[u9z, I e]) rfl <| sX [u9z, I e] u9z rfl rfl <| sX [u9z, I e] (I e) rfl rfl <| sA u9z rfl <| sA (I e) rfl <| s_nil <| sQ rfl ?_
 obtain ⟨r15z, hx14z, hM⟩ := M.e_bind hM
 refine s_call cf79 [] rfl (nilometerlaw13_Six_ok hx14z _ (St.give (T := [cRo Bs_5, cOwn (α := Note) 30 v6z ([(⟨(0 : Int), (2 : Int), (7 : Int)⟩ : Note), (⟨(1 : Int), (0 : Int), (9 : Int)⟩ : Note)]), cOwn (α := Raw 2) 60 u0_1 rr1_2, cRo Bs2_3]) H rfl)) ?_
 rintro vq w16z ⟨r3, u0_6, rr1_7, Bs2_8, hr17z, hvq, H2_, hf18z⟩
 subst hr17z
 subst vq
 try dsimp only at hM
 replace H : St w w16z [cOwn (α := Raw 2) 60 u0_6 rr1_7, cRo Bs2_8, cRo Bs_5, cOwn (α := Note) 30 v6z ([(⟨(0 : Int), (2 : Int), (7 : Int)⟩ : Note), (⟨(1 : Int), (0 : Int), (9 : Int)⟩ : Note)]), cOwn (α := Raw 2) 60 u0_1 rr1_2, cRo Bs2_3] R := H.back H2_ rfl
 clear H2_
 refine t_bs (α := Int) T34 [I 0] [(0 : Int)] H rfl (.cons rfl (Flat.rep_enc _ (0 : Int)) <| .nil) rfl rfl rfl ?_
 intro v19z w20z H
 obtain ⟨⟨l2, e2⟩, hx24z, hM⟩ := M.e_bind hM
 obtain ⟨hq25z, hq26z⟩ := Prod.mk.inj (M.e_pure hx24z)
 try dsimp only at hM
 refine s_call cf32 [u0_6, v19z] rfl (by have hc_ := (Stale_any _ ((rowSl rfl (H.get (k := 1) rfl) (roLe _ (H.get (k := 2) rfl)) hf18z).mono (Cells.sup_le (ownLe _ (H.get (k := 1) rfl)) (roLe _ (H.get (k := 2) rfl)))) ((ownSl (H.get (k := 0) rfl)).mono (ownLe _ (H.get (k := 0) rfl)))); rw [hq25z, hq26z] at hc_; exact hc_) ?_
 rintro _ w21z ⟨u22z, rfl, hs23z, hx_⟩
 obtain ⟨Bs_10, H, hs23z⟩ := H.fresh hx_ hs23z
 clear hx_
 have hl_hs23z := hs23z.len_le
 refine sM (.tuple #[u22z, I e2]) rfl <| sX [u22z, I e2] u22z rfl rfl <| sX [u22z, I e2] (I e2) rfl rfl <| sA u22z rfl <| sA (I e2) rfl <| s_nil <| sQ rfl ?_
 obtain ⟨r28z, hx27z, hM⟩ := M.e_bind hM
 refine s_call cf79 [] rfl (nilometerlaw13_Six_ok hx27z _ (St.give (T := [cRo Bs_10, cOwn (α := Int) 3 v19z ([(0 : Int)]), cOwn (α := Raw 2) 60 u0_6 rr1_7, cRo Bs2_8, cRo Bs_5, cOwn (α := Note) 30 v6z ([(⟨(0 : Int), (2 : Int), (7 : Int)⟩ : Note), (⟨(1 : Int), (0 : Int), (9 : Int)⟩ : Note)]), cOwn (α := Raw 2) 60 u0_1 rr1_2, cRo Bs2_3]) H rfl)) ?_
 rintro vq w29z ⟨r4, u0_11, rr1_12, Bs2_13, hr30z, hvq, H2_, hf31z⟩
 subst hr30z
 subst vq
 try dsimp only at hM
 replace H : St w w29z [cOwn (α := Raw 2) 60 u0_11 rr1_12, cRo Bs2_13, cRo Bs_10, cOwn (α := Int) 3 v19z ([(0 : Int)]), cOwn (α := Raw 2) 60 u0_6 rr1_7, cRo Bs2_8, cRo Bs_5, cOwn (α := Note) 30 v6z ([(⟨(0 : Int), (2 : Int), (7 : Int)⟩ : Note), (⟨(1 : Int), (0 : Int), (9 : Int)⟩ : Note)]), cOwn (α := Raw 2) 60 u0_1 rr1_2, cRo Bs2_3] R := H.back H2_ rfl
 clear H2_
 refine t_bs (α := Int) T34 [I 1] [(1 : Int)] H rfl (.cons rfl (Flat.rep_enc _ (1 : Int)) <| .nil) rfl rfl rfl ?_
 intro v32z w33z H
 obtain ⟨⟨l3, e3⟩, hx37z, hM⟩ := M.e_bind hM
 obtain ⟨hq38z, hq39z⟩ := Prod.mk.inj (M.e_pure hx37z)
 try dsimp only at hM
 refine s_call cf36 [u0_11, v32z] rfl (by have hc_ := (Ready_any _ ((rowSl rfl (H.get (k := 1) rfl) (roLe _ (H.get (k := 2) rfl)) hf31z).mono (Cells.sup_le (ownLe _ (H.get (k := 1) rfl)) (roLe _ (H.get (k := 2) rfl)))) ((ownSl (H.get (k := 0) rfl)).mono (ownLe _ (H.get (k := 0) rfl)))); rw [hq38z, hq39z] at hc_; exact hc_) ?_
 rintro _ w34z ⟨u35z, rfl, hs36z, hx_⟩
 obtain ⟨Bs_15, H, hs36z⟩ := H.fresh hx_ hs36z
 clear hx_
 have hl_hs36z := hs36z.len_le
 refine sM (.tuple #[u35z, I e3]) rfl <| sX [u35z, I e3] u35z rfl rfl <| sX [u35z, I e3] (I e3) rfl rfl <| sA u35z rfl <| sA (I e3) rfl <| s_nil <| sQ rfl ?_
 obtain ⟨r41z, hx40z, hM⟩ := M.e_bind hM
 refine s_call cf79 [] rfl (nilometerlaw13_Six_ok hx40z _ (St.give (T := [cRo Bs_15, cOwn (α := Int) 3 v32z ([(1 : Int)]), cOwn (α := Raw 2) 60 u0_11 rr1_12, cRo Bs2_13, cRo Bs_10, cOwn (α := Int) 3 v19z ([(0 : Int)]), cOwn (α := Raw 2) 60 u0_6 rr1_7, cRo Bs2_8, cRo Bs_5, cOwn (α := Note) 30 v6z ([(⟨(0 : Int), (2 : Int), (7 : Int)⟩ : Note), (⟨(1 : Int), (0 : Int), (9 : Int)⟩ : Note)]), cOwn (α := Raw 2) 60 u0_1 rr1_2, cRo Bs2_3]) H rfl)) ?_
 rintro vq w42z ⟨r5, u0_16, rr1_17, Bs2_18, hr43z, hvq, H2_, hf44z⟩
 subst hr43z
 subst vq
 try dsimp only at hM
 replace H : St w w42z [cOwn (α := Raw 2) 60 u0_16 rr1_17, cRo Bs2_18, cRo Bs_15, cOwn (α := Int) 3 v32z ([(1 : Int)]), cOwn (α := Raw 2) 60 u0_11 rr1_12, cRo Bs2_13, cRo Bs_10, cOwn (α := Int) 3 v19z ([(0 : Int)]), cOwn (α := Raw 2) 60 u0_6 rr1_7, cRo Bs2_8, cRo Bs_5, cOwn (α := Note) 30 v6z ([(⟨(0 : Int), (2 : Int), (7 : Int)⟩ : Note), (⟨(1 : Int), (0 : Int), (9 : Int)⟩ : Note)]), cOwn (α := Raw 2) 60 u0_1 rr1_2, cRo Bs2_3] R := H.back H2_ rfl
 clear H2_
 refine t_bs (α := Int) T34 [I 0] [(0 : Int)] H rfl (.cons rfl (Flat.rep_enc _ (0 : Int)) <| .nil) rfl rfl rfl ?_
 intro v45z w46z H
 obtain ⟨⟨l4, e4⟩, hx50z, hM⟩ := M.e_bind hM
 obtain ⟨hq51z, hq52z⟩ := Prod.mk.inj (M.e_pure hx50z)
 try dsimp only at hM
 refine s_call cf38 [u0_16, v45z] rfl (by have hc_ := (Longest_any _ ((rowSl rfl (H.get (k := 1) rfl) (roLe _ (H.get (k := 2) rfl)) hf44z).mono (Cells.sup_le (ownLe _ (H.get (k := 1) rfl)) (roLe _ (H.get (k := 2) rfl)))) ((ownSl (H.get (k := 0) rfl)).mono (ownLe _ (H.get (k := 0) rfl)))); rw [hq51z, hq52z] at hc_; exact hc_) ?_
 rintro _ w47z ⟨u48z, rfl, hs49z, hx_⟩
 obtain ⟨Bs_20, H, hs49z⟩ := H.fresh hx_ hs49z
 clear hx_
 have hl_hs49z := hs49z.len_le
 refine sM (.tuple #[u48z, I e4]) rfl <| sX [u48z, I e4] u48z rfl rfl <| sX [u48z, I e4] (I e4) rfl rfl <| sA u48z rfl <| sA (I e4) rfl <| s_nil <| W.seq <| sQ rfl <| sM (I e) rfl <| sC e 0 (e != 0) rfl rfl rfl <| sM (B (e != 0)) rfl ?_
 refine g_val (!(e != 0)) (gy_f rfl) (fun hg => x_mv (v := I e2) rfl) <| g_val (!(e != 0)) (gy_f rfl) (fun hg => x_cmp (kd := .i64) (a := e2) (b := 0) (r := e2 != 0) (gd_of (c := !(e != 0)) hg (I e2)) rfl rfl) <| s_val (x_por (b := e != 0) (r := e2 != 0) rfl rfl (fun hb => gd_of (c := !(e != 0)) (by simp_all) (B (e2 != 0)))) <| sM (B ((e != 0) || (e2 != 0))) rfl <| g_val (!((e != 0) || (e2 != 0))) (gy_f rfl) (fun hg => x_mv (v := I e3) rfl) <| g_val (!((e != 0) || (e2 != 0))) (gy_f rfl) (fun hg => x_cmp (kd := .i64) (a := e3) (b := 0) (r := e3 != 0) (gd_of (c := !((e != 0) || (e2 != 0))) hg (I e3)) rfl rfl) <| s_val (x_por (b := ((e != 0) || (e2 != 0))) (r := e3 != 0) rfl rfl (fun hb => gd_of (c := !((e != 0) || (e2 != 0))) (by simp_all) (B (e3 != 0)))) <| sM (B (((e != 0) || (e2 != 0)) || (e3 != 0))) rfl <| g_val (!(((e != 0) || (e2 != 0)) || (e3 != 0))) (gy_f rfl) (fun hg => x_mv (v := I e4) rfl) <| g_val (!(((e != 0) || (e2 != 0)) || (e3 != 0))) (gy_f rfl) (fun hg => x_cmp (kd := .i64) (a := e4) (b := 0) (r := e4 != 0) (gd_of (c := !(((e != 0) || (e2 != 0)) || (e3 != 0))) hg (I e4)) rfl rfl) <| s_val (x_por (b := (((e != 0) || (e2 != 0)) || (e3 != 0))) (r := e4 != 0) rfl rfl (fun hb => gd_of (c := !(((e != 0) || (e2 != 0)) || (e3 != 0))) (by simp_all) (B (e4 != 0)))) <| sM (B ((((e != 0) || (e2 != 0)) || (e3 != 0)) || (e4 != 0))) rfl ?_
 refine g_val (!((((e != 0) || (e2 != 0)) || (e3 != 0)) || (e4 != 0))) (gy_f rfl) (fun hg => x_mv (v := u9z) rfl) ?_
 refine t_gbs (α := Int) T34 (!((((e != 0) || (e2 != 0)) || (e3 != 0)) || (e4 != 0))) (gy_f rfl) [I 7, I 9, I 26, I 10, I 47, I 48] [(7 : Int), (9 : Int), (26 : Int), (10 : Int), (47 : Int), (48 : Int)] H (fun _ => rfl) (.cons rfl (Flat.rep_enc _ _) <| .cons rfl (Flat.rep_enc _ _) <| .cons rfl (Flat.rep_enc _ _) <| .cons rfl (Flat.rep_enc _ _) <| .cons rfl (Flat.rep_enc _ _) <| .cons rfl (Flat.rep_enc _ _) <| .nil) rfl rfl rfl ?_
 intro v53z Bs_21 w54z H hf55z
 obtain ⟨s, hx56z, hM⟩ := M.e_bind hM
 replace hx56z := M.e_pure hx56z
 refine t_gcall (!((((e != 0) || (e2 != 0)) || (e3 != 0)) || (e4 != 0))) (gy_f rfl) cf25 (B s) (fun _ => [u9z, v53z]) (fun hg => lst2 (gd_of (c := !((((e != 0) || (e2 != 0)) || (e3 != 0)) || (e4 != 0))) hg (u9z)) (gd_of (c := !((((e != 0) || (e2 != 0)) || (e3 != 0)) || (e4 != 0))) hg (v53z))) H (fun hg => Ret.mono (same_int _ (hs10z.mono (roLe _ (H.get (k := 13) rfl))) ((hf55z hg).mono (roLe _ (H.get (k := 0) rfl)))) fun v_ w_ ⟨hv_, hx_⟩ => ⟨hv_.trans (congrArg B hx56z), H.ext hx_⟩) ?_
 intro w57z H
 refine g_val (!((((e != 0) || (e2 != 0)) || (e3 != 0)) || (e4 != 0))) (gy_f rfl) (fun hg => x_not (b := s) (gd_of (c := !((((e != 0) || (e2 != 0)) || (e3 != 0)) || (e4 != 0))) hg (B s))) <| s_val (x_por (b := ((((e != 0) || (e2 != 0)) || (e3 != 0)) || (e4 != 0))) (r := !s) rfl rfl (fun hb => gd_of (c := !((((e != 0) || (e2 != 0)) || (e3 != 0)) || (e4 != 0))) (by simp_all) (B (!s)))) <| sM (B (((((e != 0) || (e2 != 0)) || (e3 != 0)) || (e4 != 0)) || (!s))) rfl <| g_val (!(((((e != 0) || (e2 != 0)) || (e3 != 0)) || (e4 != 0)) || (!s))) (gy_f rfl) (fun hg => x_mv (v := u22z) rfl) ?_
 refine t_gbs (α := Int) T34 (!(((((e != 0) || (e2 != 0)) || (e3 != 0)) || (e4 != 0)) || (!s))) (gy_f rfl) [I 0, I 2, I 4, I 5] [(0 : Int), (2 : Int), (4 : Int), (5 : Int)] H (fun _ => rfl) (.cons rfl (Flat.rep_enc _ _) <| .cons rfl (Flat.rep_enc _ _) <| .cons rfl (Flat.rep_enc _ _) <| .cons rfl (Flat.rep_enc _ _) <| .nil) rfl rfl rfl ?_
 intro v58z Bs_22 w59z H hf60z
 obtain ⟨s2, hx61z, hM⟩ := M.e_bind hM
 replace hx61z := M.e_pure hx61z
 refine t_gcall (!(((((e != 0) || (e2 != 0)) || (e3 != 0)) || (e4 != 0)) || (!s))) (gy_f rfl) cf25 (B s2) (fun _ => [u22z, v58z]) (fun hg => lst2 (gd_of (c := !(((((e != 0) || (e2 != 0)) || (e3 != 0)) || (e4 != 0)) || (!s))) hg (u22z)) (gd_of (c := !(((((e != 0) || (e2 != 0)) || (e3 != 0)) || (e4 != 0)) || (!s))) hg (v58z))) H (fun hg => Ret.mono (same_int _ (hs23z.mono (roLe _ (H.get (k := 10) rfl))) ((hf60z hg).mono (roLe _ (H.get (k := 0) rfl)))) fun v_ w_ ⟨hv_, hx_⟩ => ⟨hv_.trans (congrArg B hx61z), H.ext hx_⟩) ?_
 intro w62z H
 refine g_val (!(((((e != 0) || (e2 != 0)) || (e3 != 0)) || (e4 != 0)) || (!s))) (gy_f rfl) (fun hg => x_not (b := s2) (gd_of (c := !(((((e != 0) || (e2 != 0)) || (e3 != 0)) || (e4 != 0)) || (!s))) hg (B s2))) <| s_val (x_por (b := (((((e != 0) || (e2 != 0)) || (e3 != 0)) || (e4 != 0)) || (!s))) (r := !s2) rfl rfl (fun hb => gd_of (c := !(((((e != 0) || (e2 != 0)) || (e3 != 0)) || (e4 != 0)) || (!s))) (by simp_all) (B (!s2)))) <| sM (B ((((((e != 0) || (e2 != 0)) || (e3 != 0)) || (e4 != 0)) || (!s)) || (!s2))) rfl <| g_val (!((((((e != 0) || (e2 != 0)) || (e3 != 0)) || (e4 != 0)) || (!s)) || (!s2))) (gy_f rfl) (fun hg => x_mv (v := u35z) rfl) ?_
 refine t_gbs (α := Int) T34 (!((((((e != 0) || (e2 != 0)) || (e3 != 0)) || (e4 != 0)) || (!s)) || (!s2))) (gy_f rfl) [I (-1), I 6, I 16, I 36, I 56, I 57] [(-1 : Int), (6 : Int), (16 : Int), (36 : Int), (56 : Int), (57 : Int)] H (fun _ => rfl) (.cons rfl (Flat.rep_enc _ _) <| .cons rfl (Flat.rep_enc _ _) <| .cons rfl (Flat.rep_enc _ _) <| .cons rfl (Flat.rep_enc _ _) <| .cons rfl (Flat.rep_enc _ _) <| .cons rfl (Flat.rep_enc _ _) <| .nil) rfl rfl rfl ?_
 intro v63z Bs_23 w64z H hf65z
 obtain ⟨s3, hx66z, hM⟩ := M.e_bind hM
 replace hx66z := M.e_pure hx66z
 refine t_gcall (!((((((e != 0) || (e2 != 0)) || (e3 != 0)) || (e4 != 0)) || (!s)) || (!s2))) (gy_f rfl) cf25 (B s3) (fun _ => [u35z, v63z]) (fun hg => lst2 (gd_of (c := !((((((e != 0) || (e2 != 0)) || (e3 != 0)) || (e4 != 0)) || (!s)) || (!s2))) hg (u35z)) (gd_of (c := !((((((e != 0) || (e2 != 0)) || (e3 != 0)) || (e4 != 0)) || (!s)) || (!s2))) hg (v63z))) H (fun hg => Ret.mono (same_int _ (hs36z.mono (roLe _ (H.get (k := 7) rfl))) ((hf65z hg).mono (roLe _ (H.get (k := 0) rfl)))) fun v_ w_ ⟨hv_, hx_⟩ => ⟨hv_.trans (congrArg B hx66z), H.ext hx_⟩) ?_
 intro w67z H
 refine g_val (!((((((e != 0) || (e2 != 0)) || (e3 != 0)) || (e4 != 0)) || (!s)) || (!s2))) (gy_f rfl) (fun hg => x_not (b := s3) (gd_of (c := !((((((e != 0) || (e2 != 0)) || (e3 != 0)) || (e4 != 0)) || (!s)) || (!s2))) hg (B s3))) <| s_val (x_por (b := ((((((e != 0) || (e2 != 0)) || (e3 != 0)) || (e4 != 0)) || (!s)) || (!s2))) (r := !s3) rfl rfl (fun hb => gd_of (c := !((((((e != 0) || (e2 != 0)) || (e3 != 0)) || (e4 != 0)) || (!s)) || (!s2))) (by simp_all) (B (!s3)))) <| sM (B (((((((e != 0) || (e2 != 0)) || (e3 != 0)) || (e4 != 0)) || (!s)) || (!s2)) || (!s3))) rfl <| g_val (!(((((((e != 0) || (e2 != 0)) || (e3 != 0)) || (e4 != 0)) || (!s)) || (!s2)) || (!s3))) (gy_f rfl) (fun hg => x_mv (v := u48z) rfl) ?_
 refine t_gbs (α := Int) T34 (!(((((((e != 0) || (e2 != 0)) || (e3 != 0)) || (e4 != 0)) || (!s)) || (!s2)) || (!s3))) (gy_f rfl) [I 0, I 2, I 4, I 5] [(0 : Int), (2 : Int), (4 : Int), (5 : Int)] H (fun _ => rfl) (.cons rfl (Flat.rep_enc _ _) <| .cons rfl (Flat.rep_enc _ _) <| .cons rfl (Flat.rep_enc _ _) <| .cons rfl (Flat.rep_enc _ _) <| .nil) rfl rfl rfl ?_
 intro v68z Bs_24 w69z H hf70z
 obtain ⟨s4, hx71z, hM⟩ := M.e_bind hM
 replace hx71z := M.e_pure hx71z
 refine t_gcall (!(((((((e != 0) || (e2 != 0)) || (e3 != 0)) || (e4 != 0)) || (!s)) || (!s2)) || (!s3))) (gy_f rfl) cf25 (B s4) (fun _ => [u48z, v68z]) (fun hg => lst2 (gd_of (c := !(((((((e != 0) || (e2 != 0)) || (e3 != 0)) || (e4 != 0)) || (!s)) || (!s2)) || (!s3))) hg (u48z)) (gd_of (c := !(((((((e != 0) || (e2 != 0)) || (e3 != 0)) || (e4 != 0)) || (!s)) || (!s2)) || (!s3))) hg (v68z))) H (fun hg => Ret.mono (same_int _ (hs49z.mono (roLe _ (H.get (k := 4) rfl))) ((hf70z hg).mono (roLe _ (H.get (k := 0) rfl)))) fun v_ w_ ⟨hv_, hx_⟩ => ⟨hv_.trans (congrArg B hx71z), H.ext hx_⟩) ?_
 intro w72z H
 refine g_val (!(((((((e != 0) || (e2 != 0)) || (e3 != 0)) || (e4 != 0)) || (!s)) || (!s2)) || (!s3))) (gy_f rfl) (fun hg => x_not (b := s4) (gd_of (c := !(((((((e != 0) || (e2 != 0)) || (e3 != 0)) || (e4 != 0)) || (!s)) || (!s2)) || (!s3))) hg (B s4))) <| s_val (x_por (b := (((((((e != 0) || (e2 != 0)) || (e3 != 0)) || (e4 != 0)) || (!s)) || (!s2)) || (!s3))) (r := !s4) rfl rfl (fun hb => gd_of (c := !(((((((e != 0) || (e2 != 0)) || (e3 != 0)) || (e4 != 0)) || (!s)) || (!s2)) || (!s3))) (by simp_all) (B (!s4)))) <| s_nil ?_
 refine W.cond ((((((((e != 0) || (e2 != 0)) || (e3 != 0)) || (e4 != 0)) || (!s)) || (!s2)) || (!s3)) || (!s4)) rfl (fun c73z => ?_) (fun c73z => ?_)
 ·replace hM := M.e_t hM c73z
  refine sQ rfl <| sA (B false) rfl <| s_nil ?_
  refine W.ret ?_
  have hr_ := M.e_pure hM
  exact ⟨_, resE_tmp rfl, ⟨false, hr_, rfl, (H.pick [] (by decide) rfl)⟩⟩
 replace hM := M.e_f hM c73z
 refine W.skip <| sQ rfl ?_
 obtain ⟨r75z, hx74z, hM⟩ := M.e_bind hM
 refine s_call cf79 [] rfl (nilometerlaw13_Six_ok hx74z _ (St.give (T := [cRo Bs_24, cRo Bs_23, cRo Bs_22, cRo Bs_21, cRo Bs_20, cOwn (α := Int) 3 v45z ([(0 : Int)]), cOwn (α := Raw 2) 60 u0_16 rr1_17, cRo Bs2_18, cRo Bs_15, cOwn (α := Int) 3 v32z ([(1 : Int)]), cOwn (α := Raw 2) 60 u0_11 rr1_12, cRo Bs2_13, cRo Bs_10, cOwn (α := Int) 3 v19z ([(0 : Int)]), cOwn (α := Raw 2) 60 u0_6 rr1_7, cRo Bs2_8, cRo Bs_5, cOwn (α := Note) 30 v6z ([(⟨(0 : Int), (2 : Int), (7 : Int)⟩ : Note), (⟨(1 : Int), (0 : Int), (9 : Int)⟩ : Note)]), cOwn (α := Raw 2) 60 u0_1 rr1_2, cRo Bs2_3]) H rfl)) ?_
 rintro vq w76z ⟨r6, u0_25, rr1_26, Bs2_27, hr77z, hvq, H2_, hf78z⟩
 subst hr77z
 subst vq
 try dsimp only at hM
 replace H : St w w76z [cOwn (α := Raw 2) 60 u0_25 rr1_26, cRo Bs2_27, cRo Bs_24, cRo Bs_23, cRo Bs_22, cRo Bs_21, cRo Bs_20, cOwn (α := Int) 3 v45z ([(0 : Int)]), cOwn (α := Raw 2) 60 u0_16 rr1_17, cRo Bs2_18, cRo Bs_15, cOwn (α := Int) 3 v32z ([(1 : Int)]), cOwn (α := Raw 2) 60 u0_11 rr1_12, cRo Bs2_13, cRo Bs_10, cOwn (α := Int) 3 v19z ([(0 : Int)]), cOwn (α := Raw 2) 60 u0_6 rr1_7, cRo Bs2_8, cRo Bs_5, cOwn (α := Note) 30 v6z ([(⟨(0 : Int), (2 : Int), (7 : Int)⟩ : Note), (⟨(1 : Int), (0 : Int), (9 : Int)⟩ : Note)]), cOwn (α := Raw 2) 60 u0_1 rr1_2, cRo Bs2_3] R := H.back H2_ rfl
 clear H2_
 refine t_bs (α := Int) T34 [I 0] [(0 : Int)] H rfl (.cons rfl (Flat.rep_enc _ (0 : Int)) <| .nil) rfl rfl rfl ?_
 intro v79z w80z H
 refine t_bs (α := Int) T34 [I 0, I 2, I 4, I 5] [(0 : Int), (2 : Int), (4 : Int), (5 : Int)] H rfl (.cons rfl (Flat.rep_enc _ (0 : Int)) <| .cons rfl (Flat.rep_enc _ (2 : Int)) <| .cons rfl (Flat.rep_enc _ (4 : Int)) <| .cons rfl (Flat.rep_enc _ (5 : Int)) <| .nil) rfl rfl rfl ?_
 intro v81z w82z H
 obtain ⟨r84z, hx83z, hM⟩ := M.e_bind hM
 refine s_call cf34 [u0_25, v79z, v81z] rfl (notes_Fences_ok r6 ([(0 : Int)]) ([(0 : Int), (2 : Int), (4 : Int), (5 : Int)]) (Reads.sup (Reads.of (k := 2) rfl ownLe) (Reads.of (k := 3) rfl roLe)) (rowSl rfl (H.get (k := 2) rfl) (roLe _ (H.get (k := 3) rfl)) hf78z) (Reads.of (k := 1) rfl ownLe) (ownSl (H.get (k := 1) rfl)) (Reads.of (k := 0) rfl ownLe) (ownSl (H.get (k := 0) rfl)) hx83z _ (St.give (T := [cOwn (α := Int) 3 v81z ([(0 : Int), (2 : Int), (4 : Int), (5 : Int)]), cOwn (α := Int) 3 v79z ([(0 : Int)]), cOwn (α := Raw 2) 60 u0_25 rr1_26, cRo Bs2_27, cRo Bs_24, cRo Bs_23, cRo Bs_22, cRo Bs_21, cRo Bs_20, cOwn (α := Int) 3 v45z ([(0 : Int)]), cOwn (α := Raw 2) 60 u0_16 rr1_17, cRo Bs2_18, cRo Bs_15, cOwn (α := Int) 3 v32z ([(1 : Int)]), cOwn (α := Raw 2) 60 u0_11 rr1_12, cRo Bs2_13, cRo Bs_10, cOwn (α := Int) 3 v19z ([(0 : Int)]), cOwn (α := Raw 2) 60 u0_6 rr1_7, cRo Bs2_8, cRo Bs_5, cOwn (α := Note) 30 v6z ([(⟨(0 : Int), (2 : Int), (7 : Int)⟩ : Note), (⟨(1 : Int), (0 : Int), (9 : Int)⟩ : Note)]), cOwn (α := Raw 2) 60 u0_1 rr1_2, cRo Bs2_3]) H rfl)) ?_
 rintro vq w85z ⟨r0, r1, hr86z, hvq, H2_⟩
 subst hr86z
 subst vq
 try dsimp only at hM
 replace H : St w w85z [cOwn (α := Int) 3 v81z ([(0 : Int), (2 : Int), (4 : Int), (5 : Int)]), cOwn (α := Int) 3 v79z ([(0 : Int)]), cOwn (α := Raw 2) 60 u0_25 rr1_26, cRo Bs2_27, cRo Bs_24, cRo Bs_23, cRo Bs_22, cRo Bs_21, cRo Bs_20, cOwn (α := Int) 3 v45z ([(0 : Int)]), cOwn (α := Raw 2) 60 u0_16 rr1_17, cRo Bs2_18, cRo Bs_15, cOwn (α := Int) 3 v32z ([(1 : Int)]), cOwn (α := Raw 2) 60 u0_11 rr1_12, cRo Bs2_13, cRo Bs_10, cOwn (α := Int) 3 v19z ([(0 : Int)]), cOwn (α := Raw 2) 60 u0_6 rr1_7, cRo Bs2_8, cRo Bs_5, cOwn (α := Note) 30 v6z ([(⟨(0 : Int), (2 : Int), (7 : Int)⟩ : Note), (⟨(1 : Int), (0 : Int), (9 : Int)⟩ : Note)]), cOwn (α := Raw 2) 60 u0_1 rr1_2, cRo Bs2_3] R := H.back H2_ rfl
 clear H2_
 refine sM (.tuple #[B r0, I r1]) rfl <| sX [B r0, I r1] (B r0) rfl rfl <| sX [B r0, I r1] (I r1) rfl rfl <| sA (B r0) rfl <| sA (I r1) rfl <| s_nil <| sQ rfl ?_
 obtain ⟨r88z, hx87z, hM⟩ := M.e_bind hM
 refine s_call cf79 [] rfl (nilometerlaw13_Six_ok hx87z _ (St.give (T := [cOwn (α := Int) 3 v81z ([(0 : Int), (2 : Int), (4 : Int), (5 : Int)]), cOwn (α := Int) 3 v79z ([(0 : Int)]), cOwn (α := Raw 2) 60 u0_25 rr1_26, cRo Bs2_27, cRo Bs_24, cRo Bs_23, cRo Bs_22, cRo Bs_21, cRo Bs_20, cOwn (α := Int) 3 v45z ([(0 : Int)]), cOwn (α := Raw 2) 60 u0_16 rr1_17, cRo Bs2_18, cRo Bs_15, cOwn (α := Int) 3 v32z ([(1 : Int)]), cOwn (α := Raw 2) 60 u0_11 rr1_12, cRo Bs2_13, cRo Bs_10, cOwn (α := Int) 3 v19z ([(0 : Int)]), cOwn (α := Raw 2) 60 u0_6 rr1_7, cRo Bs2_8, cRo Bs_5, cOwn (α := Note) 30 v6z ([(⟨(0 : Int), (2 : Int), (7 : Int)⟩ : Note), (⟨(1 : Int), (0 : Int), (9 : Int)⟩ : Note)]), cOwn (α := Raw 2) 60 u0_1 rr1_2, cRo Bs2_3]) H rfl)) ?_
 rintro vq w89z ⟨r7, u0_30, rr1_31, Bs2_32, hr90z, hvq, H2_, hf91z⟩
 subst hr90z
 subst vq
 try dsimp only at hM
 replace H : St w w89z [cOwn (α := Raw 2) 60 u0_30 rr1_31, cRo Bs2_32, cOwn (α := Int) 3 v81z ([(0 : Int), (2 : Int), (4 : Int), (5 : Int)]), cOwn (α := Int) 3 v79z ([(0 : Int)]), cOwn (α := Raw 2) 60 u0_25 rr1_26, cRo Bs2_27, cRo Bs_24, cRo Bs_23, cRo Bs_22, cRo Bs_21, cRo Bs_20, cOwn (α := Int) 3 v45z ([(0 : Int)]), cOwn (α := Raw 2) 60 u0_16 rr1_17, cRo Bs2_18, cRo Bs_15, cOwn (α := Int) 3 v32z ([(1 : Int)]), cOwn (α := Raw 2) 60 u0_11 rr1_12, cRo Bs2_13, cRo Bs_10, cOwn (α := Int) 3 v19z ([(0 : Int)]), cOwn (α := Raw 2) 60 u0_6 rr1_7, cRo Bs2_8, cRo Bs_5, cOwn (α := Note) 30 v6z ([(⟨(0 : Int), (2 : Int), (7 : Int)⟩ : Note), (⟨(1 : Int), (0 : Int), (9 : Int)⟩ : Note)]), cOwn (α := Raw 2) 60 u0_1 rr1_2, cRo Bs2_3] R := H.back H2_ rfl
 clear H2_
 refine t_bs (α := Int) T34 [I 0] [(0 : Int)] H rfl (.cons rfl (Flat.rep_enc _ (0 : Int)) <| .nil) rfl rfl rfl ?_
 intro v92z w93z H
 refine t_bs (α := Int) T34 [I 0, I 2, I 4] [(0 : Int), (2 : Int), (4 : Int)] H rfl (.cons rfl (Flat.rep_enc _ (0 : Int)) <| .cons rfl (Flat.rep_enc _ (2 : Int)) <| .cons rfl (Flat.rep_enc _ (4 : Int)) <| .nil) rfl rfl rfl ?_
 intro v94z w95z H
 obtain ⟨r97z, hx96z, hM⟩ := M.e_bind hM
 refine s_call cf34 [u0_30, v92z, v94z] rfl (notes_Fences_ok r7 ([(0 : Int)]) ([(0 : Int), (2 : Int), (4 : Int)]) (Reads.sup (Reads.of (k := 2) rfl ownLe) (Reads.of (k := 3) rfl roLe)) (rowSl rfl (H.get (k := 2) rfl) (roLe _ (H.get (k := 3) rfl)) hf91z) (Reads.of (k := 1) rfl ownLe) (ownSl (H.get (k := 1) rfl)) (Reads.of (k := 0) rfl ownLe) (ownSl (H.get (k := 0) rfl)) hx96z _ (St.give (T := [cOwn (α := Int) 3 v94z ([(0 : Int), (2 : Int), (4 : Int)]), cOwn (α := Int) 3 v92z ([(0 : Int)]), cOwn (α := Raw 2) 60 u0_30 rr1_31, cRo Bs2_32, cOwn (α := Int) 3 v81z ([(0 : Int), (2 : Int), (4 : Int), (5 : Int)]), cOwn (α := Int) 3 v79z ([(0 : Int)]), cOwn (α := Raw 2) 60 u0_25 rr1_26, cRo Bs2_27, cRo Bs_24, cRo Bs_23, cRo Bs_22, cRo Bs_21, cRo Bs_20, cOwn (α := Int) 3 v45z ([(0 : Int)]), cOwn (α := Raw 2) 60 u0_16 rr1_17, cRo Bs2_18, cRo Bs_15, cOwn (α := Int) 3 v32z ([(1 : Int)]), cOwn (α := Raw 2) 60 u0_11 rr1_12, cRo Bs2_13, cRo Bs_10, cOwn (α := Int) 3 v19z ([(0 : Int)]), cOwn (α := Raw 2) 60 u0_6 rr1_7, cRo Bs2_8, cRo Bs_5, cOwn (α := Note) 30 v6z ([(⟨(0 : Int), (2 : Int), (7 : Int)⟩ : Note), (⟨(1 : Int), (0 : Int), (9 : Int)⟩ : Note)]), cOwn (α := Raw 2) 60 u0_1 rr1_2, cRo Bs2_3]) H rfl)) ?_
 rintro vq w98z ⟨r02, r12, hr99z, hvq, H2_⟩
 subst hr99z
 subst vq
 try dsimp only at hM
 replace H : St w w98z [cOwn (α := Int) 3 v94z ([(0 : Int), (2 : Int), (4 : Int)]), cOwn (α := Int) 3 v92z ([(0 : Int)]), cOwn (α := Raw 2) 60 u0_30 rr1_31, cRo Bs2_32, cOwn (α := Int) 3 v81z ([(0 : Int), (2 : Int), (4 : Int), (5 : Int)]), cOwn (α := Int) 3 v79z ([(0 : Int)]), cOwn (α := Raw 2) 60 u0_25 rr1_26, cRo Bs2_27, cRo Bs_24, cRo Bs_23, cRo Bs_22, cRo Bs_21, cRo Bs_20, cOwn (α := Int) 3 v45z ([(0 : Int)]), cOwn (α := Raw 2) 60 u0_16 rr1_17, cRo Bs2_18, cRo Bs_15, cOwn (α := Int) 3 v32z ([(1 : Int)]), cOwn (α := Raw 2) 60 u0_11 rr1_12, cRo Bs2_13, cRo Bs_10, cOwn (α := Int) 3 v19z ([(0 : Int)]), cOwn (α := Raw 2) 60 u0_6 rr1_7, cRo Bs2_8, cRo Bs_5, cOwn (α := Note) 30 v6z ([(⟨(0 : Int), (2 : Int), (7 : Int)⟩ : Note), (⟨(1 : Int), (0 : Int), (9 : Int)⟩ : Note)]), cOwn (α := Raw 2) 60 u0_1 rr1_2, cRo Bs2_3] R := H.back H2_ rfl
 clear H2_
 refine sM (.tuple #[B r02, I r12]) rfl <| sX [B r02, I r12] (B r02) rfl rfl <| sX [B r02, I r12] (I r12) rfl rfl <| sA (B r02) rfl <| sA (I r12) rfl <| s_nil <| sQ rfl ?_
 obtain ⟨r101z, hx100z, hM⟩ := M.e_bind hM
 refine s_call cf79 [] rfl (nilometerlaw13_Six_ok hx100z _ (St.give (T := [cOwn (α := Int) 3 v94z ([(0 : Int), (2 : Int), (4 : Int)]), cOwn (α := Int) 3 v92z ([(0 : Int)]), cOwn (α := Raw 2) 60 u0_30 rr1_31, cRo Bs2_32, cOwn (α := Int) 3 v81z ([(0 : Int), (2 : Int), (4 : Int), (5 : Int)]), cOwn (α := Int) 3 v79z ([(0 : Int)]), cOwn (α := Raw 2) 60 u0_25 rr1_26, cRo Bs2_27, cRo Bs_24, cRo Bs_23, cRo Bs_22, cRo Bs_21, cRo Bs_20, cOwn (α := Int) 3 v45z ([(0 : Int)]), cOwn (α := Raw 2) 60 u0_16 rr1_17, cRo Bs2_18, cRo Bs_15, cOwn (α := Int) 3 v32z ([(1 : Int)]), cOwn (α := Raw 2) 60 u0_11 rr1_12, cRo Bs2_13, cRo Bs_10, cOwn (α := Int) 3 v19z ([(0 : Int)]), cOwn (α := Raw 2) 60 u0_6 rr1_7, cRo Bs2_8, cRo Bs_5, cOwn (α := Note) 30 v6z ([(⟨(0 : Int), (2 : Int), (7 : Int)⟩ : Note), (⟨(1 : Int), (0 : Int), (9 : Int)⟩ : Note)]), cOwn (α := Raw 2) 60 u0_1 rr1_2, cRo Bs2_3]) H rfl)) ?_
 rintro vq w102z ⟨r8, u0_35, rr1_36, Bs2_37, hr103z, hvq, H2_, hf104z⟩
 subst hr103z
 subst vq
 try dsimp only at hM
 replace H : St w w102z [cOwn (α := Raw 2) 60 u0_35 rr1_36, cRo Bs2_37, cOwn (α := Int) 3 v94z ([(0 : Int), (2 : Int), (4 : Int)]), cOwn (α := Int) 3 v92z ([(0 : Int)]), cOwn (α := Raw 2) 60 u0_30 rr1_31, cRo Bs2_32, cOwn (α := Int) 3 v81z ([(0 : Int), (2 : Int), (4 : Int), (5 : Int)]), cOwn (α := Int) 3 v79z ([(0 : Int)]), cOwn (α := Raw 2) 60 u0_25 rr1_26, cRo Bs2_27, cRo Bs_24, cRo Bs_23, cRo Bs_22, cRo Bs_21, cRo Bs_20, cOwn (α := Int) 3 v45z ([(0 : Int)]), cOwn (α := Raw 2) 60 u0_16 rr1_17, cRo Bs2_18, cRo Bs_15, cOwn (α := Int) 3 v32z ([(1 : Int)]), cOwn (α := Raw 2) 60 u0_11 rr1_12, cRo Bs2_13, cRo Bs_10, cOwn (α := Int) 3 v19z ([(0 : Int)]), cOwn (α := Raw 2) 60 u0_6 rr1_7, cRo Bs2_8, cRo Bs_5, cOwn (α := Note) 30 v6z ([(⟨(0 : Int), (2 : Int), (7 : Int)⟩ : Note), (⟨(1 : Int), (0 : Int), (9 : Int)⟩ : Note)]), cOwn (α := Raw 2) 60 u0_1 rr1_2, cRo Bs2_3] R := H.back H2_ rfl
 clear H2_
 refine t_bs (α := Int) T34 [I 1] [(1 : Int)] H rfl (.cons rfl (Flat.rep_enc _ (1 : Int)) <| .nil) rfl rfl rfl ?_
 intro v105z w106z H
 obtain ⟨r108z, hx107z, hM⟩ := M.e_bind hM
 refine s_call cf64 [u0_35, v105z, I 4] rfl (notes_Freeze_ok r8 ([(1 : Int)]) 4 (Reads.sup (Reads.of (k := 1) rfl ownLe) (Reads.of (k := 2) rfl roLe)) (rowSl rfl (H.get (k := 1) rfl) (roLe _ (H.get (k := 2) rfl)) hf104z) (Reads.of (k := 0) rfl ownLe) (ownSl (H.get (k := 0) rfl)) hx107z _ (St.give (T := [cOwn (α := Int) 3 v105z ([(1 : Int)]), cOwn (α := Raw 2) 60 u0_35 rr1_36, cRo Bs2_37, cOwn (α := Int) 3 v94z ([(0 : Int), (2 : Int), (4 : Int)]), cOwn (α := Int) 3 v92z ([(0 : Int)]), cOwn (α := Raw 2) 60 u0_30 rr1_31, cRo Bs2_32, cOwn (α := Int) 3 v81z ([(0 : Int), (2 : Int), (4 : Int), (5 : Int)]), cOwn (α := Int) 3 v79z ([(0 : Int)]), cOwn (α := Raw 2) 60 u0_25 rr1_26, cRo Bs2_27, cRo Bs_24, cRo Bs_23, cRo Bs_22, cRo Bs_21, cRo Bs_20, cOwn (α := Int) 3 v45z ([(0 : Int)]), cOwn (α := Raw 2) 60 u0_16 rr1_17, cRo Bs2_18, cRo Bs_15, cOwn (α := Int) 3 v32z ([(1 : Int)]), cOwn (α := Raw 2) 60 u0_11 rr1_12, cRo Bs2_13, cRo Bs_10, cOwn (α := Int) 3 v19z ([(0 : Int)]), cOwn (α := Raw 2) 60 u0_6 rr1_7, cRo Bs2_8, cRo Bs_5, cOwn (α := Note) 30 v6z ([(⟨(0 : Int), (2 : Int), (7 : Int)⟩ : Note), (⟨(1 : Int), (0 : Int), (9 : Int)⟩ : Note)]), cOwn (α := Raw 2) 60 u0_1 rr1_2, cRo Bs2_3]) H rfl)) ?_
 rintro vq w109z ⟨r03, r13, u0_39, hr110z, hvq, H2_⟩
 subst hr110z
 subst vq
 try dsimp only at hM
 replace H : St w w109z [cOwn (α := Int) 3 u0_39 r03, cOwn (α := Int) 3 v105z ([(1 : Int)]), cOwn (α := Raw 2) 60 u0_35 rr1_36, cRo Bs2_37, cOwn (α := Int) 3 v94z ([(0 : Int), (2 : Int), (4 : Int)]), cOwn (α := Int) 3 v92z ([(0 : Int)]), cOwn (α := Raw 2) 60 u0_30 rr1_31, cRo Bs2_32, cOwn (α := Int) 3 v81z ([(0 : Int), (2 : Int), (4 : Int), (5 : Int)]), cOwn (α := Int) 3 v79z ([(0 : Int)]), cOwn (α := Raw 2) 60 u0_25 rr1_26, cRo Bs2_27, cRo Bs_24, cRo Bs_23, cRo Bs_22, cRo Bs_21, cRo Bs_20, cOwn (α := Int) 3 v45z ([(0 : Int)]), cOwn (α := Raw 2) 60 u0_16 rr1_17, cRo Bs2_18, cRo Bs_15, cOwn (α := Int) 3 v32z ([(1 : Int)]), cOwn (α := Raw 2) 60 u0_11 rr1_12, cRo Bs2_13, cRo Bs_10, cOwn (α := Int) 3 v19z ([(0 : Int)]), cOwn (α := Raw 2) 60 u0_6 rr1_7, cRo Bs2_8, cRo Bs_5, cOwn (α := Note) 30 v6z ([(⟨(0 : Int), (2 : Int), (7 : Int)⟩ : Note), (⟨(1 : Int), (0 : Int), (9 : Int)⟩ : Note)]), cOwn (α := Raw 2) 60 u0_1 rr1_2, cRo Bs2_3] R := H.back H2_ rfl
 clear H2_
 refine sM (.tuple #[u0_39, I r13]) rfl <| sX [u0_39, I r13] u0_39 rfl rfl <| sX [u0_39, I r13] (I r13) rfl rfl <| sA u0_39 rfl <| sA (I r13) rfl <| s_nil <| sQ rfl ?_
 obtain ⟨r112z, hx111z, hM⟩ := M.e_bind hM
 refine s_call cf79 [] rfl (nilometerlaw13_Six_ok hx111z _ (St.give (T := [cOwn (α := Int) 3 u0_39 r03, cOwn (α := Int) 3 v105z ([(1 : Int)]), cOwn (α := Raw 2) 60 u0_35 rr1_36, cRo Bs2_37, cOwn (α := Int) 3 v94z ([(0 : Int), (2 : Int), (4 : Int)]), cOwn (α := Int) 3 v92z ([(0 : Int)]), cOwn (α := Raw 2) 60 u0_30 rr1_31, cRo Bs2_32, cOwn (α := Int) 3 v81z ([(0 : Int), (2 : Int), (4 : Int), (5 : Int)]), cOwn (α := Int) 3 v79z ([(0 : Int)]), cOwn (α := Raw 2) 60 u0_25 rr1_26, cRo Bs2_27, cRo Bs_24, cRo Bs_23, cRo Bs_22, cRo Bs_21, cRo Bs_20, cOwn (α := Int) 3 v45z ([(0 : Int)]), cOwn (α := Raw 2) 60 u0_16 rr1_17, cRo Bs2_18, cRo Bs_15, cOwn (α := Int) 3 v32z ([(1 : Int)]), cOwn (α := Raw 2) 60 u0_11 rr1_12, cRo Bs2_13, cRo Bs_10, cOwn (α := Int) 3 v19z ([(0 : Int)]), cOwn (α := Raw 2) 60 u0_6 rr1_7, cRo Bs2_8, cRo Bs_5, cOwn (α := Note) 30 v6z ([(⟨(0 : Int), (2 : Int), (7 : Int)⟩ : Note), (⟨(1 : Int), (0 : Int), (9 : Int)⟩ : Note)]), cOwn (α := Raw 2) 60 u0_1 rr1_2, cRo Bs2_3]) H rfl)) ?_
 rintro vq w113z ⟨r9, u0_40, rr1_41, Bs2_42, hr114z, hvq, H2_, hf115z⟩
 subst hr114z
 subst vq
 try dsimp only at hM
 replace H : St w w113z [cOwn (α := Raw 2) 60 u0_40 rr1_41, cRo Bs2_42, cOwn (α := Int) 3 u0_39 r03, cOwn (α := Int) 3 v105z ([(1 : Int)]), cOwn (α := Raw 2) 60 u0_35 rr1_36, cRo Bs2_37, cOwn (α := Int) 3 v94z ([(0 : Int), (2 : Int), (4 : Int)]), cOwn (α := Int) 3 v92z ([(0 : Int)]), cOwn (α := Raw 2) 60 u0_30 rr1_31, cRo Bs2_32, cOwn (α := Int) 3 v81z ([(0 : Int), (2 : Int), (4 : Int), (5 : Int)]), cOwn (α := Int) 3 v79z ([(0 : Int)]), cOwn (α := Raw 2) 60 u0_25 rr1_26, cRo Bs2_27, cRo Bs_24, cRo Bs_23, cRo Bs_22, cRo Bs_21, cRo Bs_20, cOwn (α := Int) 3 v45z ([(0 : Int)]), cOwn (α := Raw 2) 60 u0_16 rr1_17, cRo Bs2_18, cRo Bs_15, cOwn (α := Int) 3 v32z ([(1 : Int)]), cOwn (α := Raw 2) 60 u0_11 rr1_12, cRo Bs2_13, cRo Bs_10, cOwn (α := Int) 3 v19z ([(0 : Int)]), cOwn (α := Raw 2) 60 u0_6 rr1_7, cRo Bs2_8, cRo Bs_5, cOwn (α := Note) 30 v6z ([(⟨(0 : Int), (2 : Int), (7 : Int)⟩ : Note), (⟨(1 : Int), (0 : Int), (9 : Int)⟩ : Note)]), cOwn (α := Raw 2) 60 u0_1 rr1_2, cRo Bs2_3] R := H.back H2_ rfl
 clear H2_
 refine t_bs (α := Int) T34 [I 1] [(1 : Int)] H rfl (.cons rfl (Flat.rep_enc _ (1 : Int)) <| .nil) rfl rfl rfl ?_
 intro v116z w117z H
 obtain ⟨r119z, hx118z, hM⟩ := M.e_bind hM
 refine s_call cf65 [u0_40, v116z, I 4] rfl (notes_Lines_ok r9 ([(1 : Int)]) 4 (Reads.sup (Reads.of (k := 1) rfl ownLe) (Reads.of (k := 2) rfl roLe)) (rowSl rfl (H.get (k := 1) rfl) (roLe _ (H.get (k := 2) rfl)) hf115z) (Reads.of (k := 0) rfl ownLe) (ownSl (H.get (k := 0) rfl)) hx118z _ (St.give (T := [cOwn (α := Int) 3 v116z ([(1 : Int)]), cOwn (α := Raw 2) 60 u0_40 rr1_41, cRo Bs2_42, cOwn (α := Int) 3 u0_39 r03, cOwn (α := Int) 3 v105z ([(1 : Int)]), cOwn (α := Raw 2) 60 u0_35 rr1_36, cRo Bs2_37, cOwn (α := Int) 3 v94z ([(0 : Int), (2 : Int), (4 : Int)]), cOwn (α := Int) 3 v92z ([(0 : Int)]), cOwn (α := Raw 2) 60 u0_30 rr1_31, cRo Bs2_32, cOwn (α := Int) 3 v81z ([(0 : Int), (2 : Int), (4 : Int), (5 : Int)]), cOwn (α := Int) 3 v79z ([(0 : Int)]), cOwn (α := Raw 2) 60 u0_25 rr1_26, cRo Bs2_27, cRo Bs_24, cRo Bs_23, cRo Bs_22, cRo Bs_21, cRo Bs_20, cOwn (α := Int) 3 v45z ([(0 : Int)]), cOwn (α := Raw 2) 60 u0_16 rr1_17, cRo Bs2_18, cRo Bs_15, cOwn (α := Int) 3 v32z ([(1 : Int)]), cOwn (α := Raw 2) 60 u0_11 rr1_12, cRo Bs2_13, cRo Bs_10, cOwn (α := Int) 3 v19z ([(0 : Int)]), cOwn (α := Raw 2) 60 u0_6 rr1_7, cRo Bs2_8, cRo Bs_5, cOwn (α := Note) 30 v6z ([(⟨(0 : Int), (2 : Int), (7 : Int)⟩ : Note), (⟨(1 : Int), (0 : Int), (9 : Int)⟩ : Note)]), cOwn (α := Raw 2) 60 u0_1 rr1_2, cRo Bs2_3]) H rfl)) ?_
 rintro vq w120z ⟨r04, r14, u0_44, rr1_45, Bs2_46, hr121z, hvq, H2_, hf122z⟩
 subst hr121z
 subst vq
 try dsimp only at hM
 replace H : St w w120z [cOwn (α := Raw 0) 34 u0_44 rr1_45, cRo Bs2_46, cOwn (α := Int) 3 v116z ([(1 : Int)]), cOwn (α := Raw 2) 60 u0_40 rr1_41, cRo Bs2_42, cOwn (α := Int) 3 u0_39 r03, cOwn (α := Int) 3 v105z ([(1 : Int)]), cOwn (α := Raw 2) 60 u0_35 rr1_36, cRo Bs2_37, cOwn (α := Int) 3 v94z ([(0 : Int), (2 : Int), (4 : Int)]), cOwn (α := Int) 3 v92z ([(0 : Int)]), cOwn (α := Raw 2) 60 u0_30 rr1_31, cRo Bs2_32, cOwn (α := Int) 3 v81z ([(0 : Int), (2 : Int), (4 : Int), (5 : Int)]), cOwn (α := Int) 3 v79z ([(0 : Int)]), cOwn (α := Raw 2) 60 u0_25 rr1_26, cRo Bs2_27, cRo Bs_24, cRo Bs_23, cRo Bs_22, cRo Bs_21, cRo Bs_20, cOwn (α := Int) 3 v45z ([(0 : Int)]), cOwn (α := Raw 2) 60 u0_16 rr1_17, cRo Bs2_18, cRo Bs_15, cOwn (α := Int) 3 v32z ([(1 : Int)]), cOwn (α := Raw 2) 60 u0_11 rr1_12, cRo Bs2_13, cRo Bs_10, cOwn (α := Int) 3 v19z ([(0 : Int)]), cOwn (α := Raw 2) 60 u0_6 rr1_7, cRo Bs2_8, cRo Bs_5, cOwn (α := Note) 30 v6z ([(⟨(0 : Int), (2 : Int), (7 : Int)⟩ : Note), (⟨(1 : Int), (0 : Int), (9 : Int)⟩ : Note)]), cOwn (α := Raw 2) 60 u0_1 rr1_2, cRo Bs2_3] R := H.back H2_ rfl
 clear H2_
 refine sM (.tuple #[u0_44, I r14]) rfl <| sX [u0_44, I r14] u0_44 rfl rfl <| sX [u0_44, I r14] (I r14) rfl rfl <| sA u0_44 rfl <| sA (I r14) rfl <| s_nil <| sQ rfl ?_
 obtain ⟨r124z, hx123z, hM⟩ := M.e_bind hM
 refine s_call cf79 [] rfl (nilometerlaw13_Six_ok hx123z _ (St.give (T := [cOwn (α := Raw 0) 34 u0_44 rr1_45, cRo Bs2_46, cOwn (α := Int) 3 v116z ([(1 : Int)]), cOwn (α := Raw 2) 60 u0_40 rr1_41, cRo Bs2_42, cOwn (α := Int) 3 u0_39 r03, cOwn (α := Int) 3 v105z ([(1 : Int)]), cOwn (α := Raw 2) 60 u0_35 rr1_36, cRo Bs2_37, cOwn (α := Int) 3 v94z ([(0 : Int), (2 : Int), (4 : Int)]), cOwn (α := Int) 3 v92z ([(0 : Int)]), cOwn (α := Raw 2) 60 u0_30 rr1_31, cRo Bs2_32, cOwn (α := Int) 3 v81z ([(0 : Int), (2 : Int), (4 : Int), (5 : Int)]), cOwn (α := Int) 3 v79z ([(0 : Int)]), cOwn (α := Raw 2) 60 u0_25 rr1_26, cRo Bs2_27, cRo Bs_24, cRo Bs_23, cRo Bs_22, cRo Bs_21, cRo Bs_20, cOwn (α := Int) 3 v45z ([(0 : Int)]), cOwn (α := Raw 2) 60 u0_16 rr1_17, cRo Bs2_18, cRo Bs_15, cOwn (α := Int) 3 v32z ([(1 : Int)]), cOwn (α := Raw 2) 60 u0_11 rr1_12, cRo Bs2_13, cRo Bs_10, cOwn (α := Int) 3 v19z ([(0 : Int)]), cOwn (α := Raw 2) 60 u0_6 rr1_7, cRo Bs2_8, cRo Bs_5, cOwn (α := Note) 30 v6z ([(⟨(0 : Int), (2 : Int), (7 : Int)⟩ : Note), (⟨(1 : Int), (0 : Int), (9 : Int)⟩ : Note)]), cOwn (α := Raw 2) 60 u0_1 rr1_2, cRo Bs2_3]) H rfl)) ?_
 rintro vq w125z ⟨r10, u0_47, rr1_48, Bs2_49, hr126z, hvq, H2_, hf127z⟩
 subst hr126z
 subst vq
 try dsimp only at hM
 replace H : St w w125z [cOwn (α := Raw 2) 60 u0_47 rr1_48, cRo Bs2_49, cOwn (α := Raw 0) 34 u0_44 rr1_45, cRo Bs2_46, cOwn (α := Int) 3 v116z ([(1 : Int)]), cOwn (α := Raw 2) 60 u0_40 rr1_41, cRo Bs2_42, cOwn (α := Int) 3 u0_39 r03, cOwn (α := Int) 3 v105z ([(1 : Int)]), cOwn (α := Raw 2) 60 u0_35 rr1_36, cRo Bs2_37, cOwn (α := Int) 3 v94z ([(0 : Int), (2 : Int), (4 : Int)]), cOwn (α := Int) 3 v92z ([(0 : Int)]), cOwn (α := Raw 2) 60 u0_30 rr1_31, cRo Bs2_32, cOwn (α := Int) 3 v81z ([(0 : Int), (2 : Int), (4 : Int), (5 : Int)]), cOwn (α := Int) 3 v79z ([(0 : Int)]), cOwn (α := Raw 2) 60 u0_25 rr1_26, cRo Bs2_27, cRo Bs_24, cRo Bs_23, cRo Bs_22, cRo Bs_21, cRo Bs_20, cOwn (α := Int) 3 v45z ([(0 : Int)]), cOwn (α := Raw 2) 60 u0_16 rr1_17, cRo Bs2_18, cRo Bs_15, cOwn (α := Int) 3 v32z ([(1 : Int)]), cOwn (α := Raw 2) 60 u0_11 rr1_12, cRo Bs2_13, cRo Bs_10, cOwn (α := Int) 3 v19z ([(0 : Int)]), cOwn (α := Raw 2) 60 u0_6 rr1_7, cRo Bs2_8, cRo Bs_5, cOwn (α := Note) 30 v6z ([(⟨(0 : Int), (2 : Int), (7 : Int)⟩ : Note), (⟨(1 : Int), (0 : Int), (9 : Int)⟩ : Note)]), cOwn (α := Raw 2) 60 u0_1 rr1_2, cRo Bs2_3] R := H.back H2_ rfl
 clear H2_
 refine t_bs (α := Int) T34 [I 1] [(1 : Int)] H rfl (.cons rfl (Flat.rep_enc _ (1 : Int)) <| .nil) rfl rfl rfl ?_
 intro v128z w129z H
 obtain ⟨r131z, hx130z, hM⟩ := M.e_bind hM
 refine s_call cf64 [u0_47, v128z, I 3] rfl (notes_Freeze_ok r10 ([(1 : Int)]) 3 (Reads.sup (Reads.of (k := 1) rfl ownLe) (Reads.of (k := 2) rfl roLe)) (rowSl rfl (H.get (k := 1) rfl) (roLe _ (H.get (k := 2) rfl)) hf127z) (Reads.of (k := 0) rfl ownLe) (ownSl (H.get (k := 0) rfl)) hx130z _ (St.give (T := [cOwn (α := Int) 3 v128z ([(1 : Int)]), cOwn (α := Raw 2) 60 u0_47 rr1_48, cRo Bs2_49, cOwn (α := Raw 0) 34 u0_44 rr1_45, cRo Bs2_46, cOwn (α := Int) 3 v116z ([(1 : Int)]), cOwn (α := Raw 2) 60 u0_40 rr1_41, cRo Bs2_42, cOwn (α := Int) 3 u0_39 r03, cOwn (α := Int) 3 v105z ([(1 : Int)]), cOwn (α := Raw 2) 60 u0_35 rr1_36, cRo Bs2_37, cOwn (α := Int) 3 v94z ([(0 : Int), (2 : Int), (4 : Int)]), cOwn (α := Int) 3 v92z ([(0 : Int)]), cOwn (α := Raw 2) 60 u0_30 rr1_31, cRo Bs2_32, cOwn (α := Int) 3 v81z ([(0 : Int), (2 : Int), (4 : Int), (5 : Int)]), cOwn (α := Int) 3 v79z ([(0 : Int)]), cOwn (α := Raw 2) 60 u0_25 rr1_26, cRo Bs2_27, cRo Bs_24, cRo Bs_23, cRo Bs_22, cRo Bs_21, cRo Bs_20, cOwn (α := Int) 3 v45z ([(0 : Int)]), cOwn (α := Raw 2) 60 u0_16 rr1_17, cRo Bs2_18, cRo Bs_15, cOwn (α := Int) 3 v32z ([(1 : Int)]), cOwn (α := Raw 2) 60 u0_11 rr1_12, cRo Bs2_13, cRo Bs_10, cOwn (α := Int) 3 v19z ([(0 : Int)]), cOwn (α := Raw 2) 60 u0_6 rr1_7, cRo Bs2_8, cRo Bs_5, cOwn (α := Note) 30 v6z ([(⟨(0 : Int), (2 : Int), (7 : Int)⟩ : Note), (⟨(1 : Int), (0 : Int), (9 : Int)⟩ : Note)]), cOwn (α := Raw 2) 60 u0_1 rr1_2, cRo Bs2_3]) H rfl)) ?_
 rintro vq w132z ⟨r05, r15, u0_51, hr133z, hvq, H2_⟩
 subst hr133z
 subst vq
 try dsimp only at hM
 replace H : St w w132z [cOwn (α := Int) 3 u0_51 r05, cOwn (α := Int) 3 v128z ([(1 : Int)]), cOwn (α := Raw 2) 60 u0_47 rr1_48, cRo Bs2_49, cOwn (α := Raw 0) 34 u0_44 rr1_45, cRo Bs2_46, cOwn (α := Int) 3 v116z ([(1 : Int)]), cOwn (α := Raw 2) 60 u0_40 rr1_41, cRo Bs2_42, cOwn (α := Int) 3 u0_39 r03, cOwn (α := Int) 3 v105z ([(1 : Int)]), cOwn (α := Raw 2) 60 u0_35 rr1_36, cRo Bs2_37, cOwn (α := Int) 3 v94z ([(0 : Int), (2 : Int), (4 : Int)]), cOwn (α := Int) 3 v92z ([(0 : Int)]), cOwn (α := Raw 2) 60 u0_30 rr1_31, cRo Bs2_32, cOwn (α := Int) 3 v81z ([(0 : Int), (2 : Int), (4 : Int), (5 : Int)]), cOwn (α := Int) 3 v79z ([(0 : Int)]), cOwn (α := Raw 2) 60 u0_25 rr1_26, cRo Bs2_27, cRo Bs_24, cRo Bs_23, cRo Bs_22, cRo Bs_21, cRo Bs_20, cOwn (α := Int) 3 v45z ([(0 : Int)]), cOwn (α := Raw 2) 60 u0_16 rr1_17, cRo Bs2_18, cRo Bs_15, cOwn (α := Int) 3 v32z ([(1 : Int)]), cOwn (α := Raw 2) 60 u0_11 rr1_12, cRo Bs2_13, cRo Bs_10, cOwn (α := Int) 3 v19z ([(0 : Int)]), cOwn (α := Raw 2) 60 u0_6 rr1_7, cRo Bs2_8, cRo Bs_5, cOwn (α := Note) 30 v6z ([(⟨(0 : Int), (2 : Int), (7 : Int)⟩ : Note), (⟨(1 : Int), (0 : Int), (9 : Int)⟩ : Note)]), cOwn (α := Raw 2) 60 u0_1 rr1_2, cRo Bs2_3] R := H.back H2_ rfl
 clear H2_
 refine sM (.tuple #[u0_51, I r15]) rfl <| sX [u0_51, I r15] u0_51 rfl rfl <| sX [u0_51, I r15] (I r15) rfl rfl <| sA u0_51 rfl <| sA (I r15) rfl <| s_nil <| W.seq <| sQ rfl <| sM (I r1) rfl <| sC r1 0 (r1 != 0) rfl rfl rfl <| sM (B (r1 != 0)) rfl ?_
 refine g_val (!(r1 != 0)) (gy_f rfl) (fun hg => x_mv (v := I r12) rfl) <| g_val (!(r1 != 0)) (gy_f rfl) (fun hg => x_cmp (kd := .i64) (a := r12) (b := 0) (r := r12 != 0) (gd_of (c := !(r1 != 0)) hg (I r12)) rfl rfl) <| s_val (x_por (b := r1 != 0) (r := r12 != 0) rfl rfl (fun hb => gd_of (c := !(r1 != 0)) (by simp_all) (B (r12 != 0)))) <| sM (B ((r1 != 0) || (r12 != 0))) rfl <| g_val (!((r1 != 0) || (r12 != 0))) (gy_f rfl) (fun hg => x_mv (v := I r13) rfl) <| g_val (!((r1 != 0) || (r12 != 0))) (gy_f rfl) (fun hg => x_cmp (kd := .i64) (a := r13) (b := 0) (r := r13 != 0) (gd_of (c := !((r1 != 0) || (r12 != 0))) hg (I r13)) rfl rfl) <| s_val (x_por (b := ((r1 != 0) || (r12 != 0))) (r := r13 != 0) rfl rfl (fun hb => gd_of (c := !((r1 != 0) || (r12 != 0))) (by simp_all) (B (r13 != 0)))) <| sM (B (((r1 != 0) || (r12 != 0)) || (r13 != 0))) rfl <| g_val (!(((r1 != 0) || (r12 != 0)) || (r13 != 0))) (gy_f rfl) (fun hg => x_mv (v := I r14) rfl) <| g_val (!(((r1 != 0) || (r12 != 0)) || (r13 != 0))) (gy_f rfl) (fun hg => x_cmp (kd := .i64) (a := r14) (b := 0) (r := r14 != 0) (gd_of (c := !(((r1 != 0) || (r12 != 0)) || (r13 != 0))) hg (I r14)) rfl rfl) <| s_val (x_por (b := (((r1 != 0) || (r12 != 0)) || (r13 != 0))) (r := r14 != 0) rfl rfl (fun hb => gd_of (c := !(((r1 != 0) || (r12 != 0)) || (r13 != 0))) (by simp_all) (B (r14 != 0)))) <| sM (B ((((r1 != 0) || (r12 != 0)) || (r13 != 0)) || (r14 != 0))) rfl ?_
 refine g_val (!((((r1 != 0) || (r12 != 0)) || (r13 != 0)) || (r14 != 0))) (gy_f rfl) (fun hg => x_mv (v := I r15) rfl) <| g_val (!((((r1 != 0) || (r12 != 0)) || (r13 != 0)) || (r14 != 0))) (gy_f rfl) (fun hg => x_cmp (kd := .i64) (a := r15) (b := 5) (r := r15 != 5) (gd_of (c := !((((r1 != 0) || (r12 != 0)) || (r13 != 0)) || (r14 != 0))) hg (I r15)) rfl rfl) <| s_val (x_por (b := ((((r1 != 0) || (r12 != 0)) || (r13 != 0)) || (r14 != 0))) (r := r15 != 5) rfl rfl (fun hb => gd_of (c := !((((r1 != 0) || (r12 != 0)) || (r13 != 0)) || (r14 != 0))) (by simp_all) (B (r15 != 5)))) <| sM (B (((((r1 != 0) || (r12 != 0)) || (r13 != 0)) || (r14 != 0)) || (r15 != 5))) rfl <| g_val (!(((((r1 != 0) || (r12 != 0)) || (r13 != 0)) || (r14 != 0)) || (r15 != 5))) (gy_f rfl) (fun hg => x_mv (v := B r0) rfl) <| g_val (!(((((r1 != 0) || (r12 != 0)) || (r13 != 0)) || (r14 != 0)) || (r15 != 5))) (gy_f rfl) (fun hg => x_not (b := r0) (gd_of (c := !(((((r1 != 0) || (r12 != 0)) || (r13 != 0)) || (r14 != 0)) || (r15 != 5))) hg (B r0))) <| s_val (x_por (b := (((((r1 != 0) || (r12 != 0)) || (r13 != 0)) || (r14 != 0)) || (r15 != 5))) (r := !r0) rfl rfl (fun hb => gd_of (c := !(((((r1 != 0) || (r12 != 0)) || (r13 != 0)) || (r14 != 0)) || (r15 != 5))) (by simp_all) (B (!r0)))) <| sM (B ((((((r1 != 0) || (r12 != 0)) || (r13 != 0)) || (r14 != 0)) || (r15 != 5)) || (!r0))) rfl <| g_val (!((((((r1 != 0) || (r12 != 0)) || (r13 != 0)) || (r14 != 0)) || (r15 != 5)) || (!r0))) (gy_f rfl) (fun hg => x_mv (v := B r02) rfl) <| s_val (x_por (b := ((((((r1 != 0) || (r12 != 0)) || (r13 != 0)) || (r14 != 0)) || (r15 != 5)) || (!r0))) (r := r02) rfl rfl (fun hb => gd_of (c := !((((((r1 != 0) || (r12 != 0)) || (r13 != 0)) || (r14 != 0)) || (r15 != 5)) || (!r0))) (by simp_all) (B r02))) <| sM (B (((((((r1 != 0) || (r12 != 0)) || (r13 != 0)) || (r14 != 0)) || (r15 != 5)) || (!r0)) || r02)) rfl <| g_val (!(((((((r1 != 0) || (r12 != 0)) || (r13 != 0)) || (r14 != 0)) || (r15 != 5)) || (!r0)) || r02)) (gy_f rfl) (fun hg => x_mv (v := u0_39) rfl) ?_
 refine t_gbs (α := Int) T34 (!(((((((r1 != 0) || (r12 != 0)) || (r13 != 0)) || (r14 != 0)) || (r15 != 5)) || (!r0)) || r02)) (gy_f rfl) [I 2, I 3] [(2 : Int), (3 : Int)] H (fun _ => rfl) (.cons rfl (Flat.rep_enc _ _) <| .cons rfl (Flat.rep_enc _ _) <| .nil) rfl rfl rfl ?_
 intro v134z Bs_52 w135z H hf136z
 obtain ⟨s5, hx137z, hM⟩ := M.e_bind hM
 replace hx137z := M.e_pure hx137z
 refine t_gcall (!(((((((r1 != 0) || (r12 != 0)) || (r13 != 0)) || (r14 != 0)) || (r15 != 5)) || (!r0)) || r02)) (gy_f rfl) cf25 (B s5) (fun _ => [u0_39, v134z]) (fun hg => lst2 (gd_of (c := !(((((((r1 != 0) || (r12 != 0)) || (r13 != 0)) || (r14 != 0)) || (r15 != 5)) || (!r0)) || r02)) hg (u0_39)) (gd_of (c := !(((((((r1 != 0) || (r12 != 0)) || (r13 != 0)) || (r14 != 0)) || (r15 != 5)) || (!r0)) || r02)) hg (v134z))) H (fun hg => Ret.mono (same_int _ ((ownSl (H.get (k := 10) rfl)).mono (ownLe _ (H.get (k := 10) rfl))) ((hf136z hg).mono (roLe _ (H.get (k := 0) rfl)))) fun v_ w_ ⟨hv_, hx_⟩ => ⟨hv_.trans (congrArg B hx137z), H.ext hx_⟩) ?_
 intro w138z H
 refine g_val (!(((((((r1 != 0) || (r12 != 0)) || (r13 != 0)) || (r14 != 0)) || (r15 != 5)) || (!r0)) || r02)) (gy_f rfl) (fun hg => x_not (b := s5) (gd_of (c := !(((((((r1 != 0) || (r12 != 0)) || (r13 != 0)) || (r14 != 0)) || (r15 != 5)) || (!r0)) || r02)) hg (B s5))) <| s_val (x_por (b := (((((((r1 != 0) || (r12 != 0)) || (r13 != 0)) || (r14 != 0)) || (r15 != 5)) || (!r0)) || r02)) (r := !s5) rfl rfl (fun hb => gd_of (c := !(((((((r1 != 0) || (r12 != 0)) || (r13 != 0)) || (r14 != 0)) || (r15 != 5)) || (!r0)) || r02)) (by simp_all) (B (!s5)))) <| sM (B ((((((((r1 != 0) || (r12 != 0)) || (r13 != 0)) || (r14 != 0)) || (r15 != 5)) || (!r0)) || r02) || (!s5))) rfl <| g_val (!((((((((r1 != 0) || (r12 != 0)) || (r13 != 0)) || (r14 != 0)) || (r15 != 5)) || (!r0)) || r02) || (!s5))) (gy_f rfl) (fun hg => x_mv (v := u0_44) rfl) <| g_val (!((((((((r1 != 0) || (r12 != 0)) || (r13 != 0)) || (r14 != 0)) || (r15 != 5)) || (!r0)) || r02) || (!s5))) (gy_f rfl) (fun hg => x_lenS T73.und (gd_of (c := !((((((((r1 != 0) || (r12 != 0)) || (r13 != 0)) || (r14 != 0)) || (r15 != 5)) || (!r0)) || r02) || (!s5))) hg (u0_44)) (rowSl rfl (H.get (k := 5) rfl) (roLe _ (H.get (k := 6) rfl)) hf122z)) <| g_val (!((((((((r1 != 0) || (r12 != 0)) || (r13 != 0)) || (r14 != 0)) || (r15 != 5)) || (!r0)) || r02) || (!s5))) (gy_f rfl) (fun hg => x_cmp (kd := .i64) (a := (r04.length : Int)) (b := 2) (r := (r04.length : Int) != 2) (gd_of (c := !((((((((r1 != 0) || (r12 != 0)) || (r13 != 0)) || (r14 != 0)) || (r15 != 5)) || (!r0)) || r02) || (!s5))) hg (I (r04.length : Int))) rfl rfl) <| s_val (x_por (b := ((((((((r1 != 0) || (r12 != 0)) || (r13 != 0)) || (r14 != 0)) || (r15 != 5)) || (!r0)) || r02) || (!s5))) (r := (r04.length : Int) != 2) rfl rfl (fun hb => gd_of (c := !((((((((r1 != 0) || (r12 != 0)) || (r13 != 0)) || (r14 != 0)) || (r15 != 5)) || (!r0)) || r02) || (!s5))) (by simp_all) (B ((r04.length : Int) != 2)))) <| s_nil ?_
 refine W.cond (((((((((r1 != 0) || (r12 != 0)) || (r13 != 0)) || (r14 != 0)) || (r15 != 5)) || (!r0)) || r02) || (!s5)) || ((r04.length : Int) != 2)) rfl (fun c140z => ?_) (fun c140z => ?_)
 ·replace hM := M.e_t hM c140z
  refine sQ rfl <| sA (B false) rfl <| s_nil ?_
  refine W.ret ?_
  have hr_ := M.e_pure hM
  exact ⟨_, resE_tmp rfl, ⟨false, hr_, rfl, (H.pick [] (by decide) rfl)⟩⟩
 replace hM := M.e_f hM c140z
 refine W.skip <| sQ rfl ?_
 obtain ⟨r142z, hx141z, hM⟩ := M.e_bind hM
 refine s_call cf79 [] rfl (nilometerlaw13_Six_ok hx141z _ (St.give (T := [cRo Bs_52, cOwn (α := Int) 3 u0_51 r05, cOwn (α := Int) 3 v128z ([(1 : Int)]), cOwn (α := Raw 2) 60 u0_47 rr1_48, cRo Bs2_49, cOwn (α := Raw 0) 34 u0_44 rr1_45, cRo Bs2_46, cOwn (α := Int) 3 v116z ([(1 : Int)]), cOwn (α := Raw 2) 60 u0_40 rr1_41, cRo Bs2_42, cOwn (α := Int) 3 u0_39 r03, cOwn (α := Int) 3 v105z ([(1 : Int)]), cOwn (α := Raw 2) 60 u0_35 rr1_36, cRo Bs2_37, cOwn (α := Int) 3 v94z ([(0 : Int), (2 : Int), (4 : Int)]), cOwn (α := Int) 3 v92z ([(0 : Int)]), cOwn (α := Raw 2) 60 u0_30 rr1_31, cRo Bs2_32, cOwn (α := Int) 3 v81z ([(0 : Int), (2 : Int), (4 : Int), (5 : Int)]), cOwn (α := Int) 3 v79z ([(0 : Int)]), cOwn (α := Raw 2) 60 u0_25 rr1_26, cRo Bs2_27, cRo Bs_24, cRo Bs_23, cRo Bs_22, cRo Bs_21, cRo Bs_20, cOwn (α := Int) 3 v45z ([(0 : Int)]), cOwn (α := Raw 2) 60 u0_16 rr1_17, cRo Bs2_18, cRo Bs_15, cOwn (α := Int) 3 v32z ([(1 : Int)]), cOwn (α := Raw 2) 60 u0_11 rr1_12, cRo Bs2_13, cRo Bs_10, cOwn (α := Int) 3 v19z ([(0 : Int)]), cOwn (α := Raw 2) 60 u0_6 rr1_7, cRo Bs2_8, cRo Bs_5, cOwn (α := Note) 30 v6z ([(⟨(0 : Int), (2 : Int), (7 : Int)⟩ : Note), (⟨(1 : Int), (0 : Int), (9 : Int)⟩ : Note)]), cOwn (α := Raw 2) 60 u0_1 rr1_2, cRo Bs2_3]) H rfl)) ?_
 rintro vq w143z ⟨r11, u0_53, rr1_54, Bs2_55, hr144z, hvq, H2_, hf145z⟩
 subst hr144z
 subst vq
 try dsimp only at hM
 replace H : St w w143z [cOwn (α := Raw 2) 60 u0_53 rr1_54, cRo Bs2_55, cRo Bs_52, cOwn (α := Int) 3 u0_51 r05, cOwn (α := Int) 3 v128z ([(1 : Int)]), cOwn (α := Raw 2) 60 u0_47 rr1_48, cRo Bs2_49, cOwn (α := Raw 0) 34 u0_44 rr1_45, cRo Bs2_46, cOwn (α := Int) 3 v116z ([(1 : Int)]), cOwn (α := Raw 2) 60 u0_40 rr1_41, cRo Bs2_42, cOwn (α := Int) 3 u0_39 r03, cOwn (α := Int) 3 v105z ([(1 : Int)]), cOwn (α := Raw 2) 60 u0_35 rr1_36, cRo Bs2_37, cOwn (α := Int) 3 v94z ([(0 : Int), (2 : Int), (4 : Int)]), cOwn (α := Int) 3 v92z ([(0 : Int)]), cOwn (α := Raw 2) 60 u0_30 rr1_31, cRo Bs2_32, cOwn (α := Int) 3 v81z ([(0 : Int), (2 : Int), (4 : Int), (5 : Int)]), cOwn (α := Int) 3 v79z ([(0 : Int)]), cOwn (α := Raw 2) 60 u0_25 rr1_26, cRo Bs2_27, cRo Bs_24, cRo Bs_23, cRo Bs_22, cRo Bs_21, cRo Bs_20, cOwn (α := Int) 3 v45z ([(0 : Int)]), cOwn (α := Raw 2) 60 u0_16 rr1_17, cRo Bs2_18, cRo Bs_15, cOwn (α := Int) 3 v32z ([(1 : Int)]), cOwn (α := Raw 2) 60 u0_11 rr1_12, cRo Bs2_13, cRo Bs_10, cOwn (α := Int) 3 v19z ([(0 : Int)]), cOwn (α := Raw 2) 60 u0_6 rr1_7, cRo Bs2_8, cRo Bs_5, cOwn (α := Note) 30 v6z ([(⟨(0 : Int), (2 : Int), (7 : Int)⟩ : Note), (⟨(1 : Int), (0 : Int), (9 : Int)⟩ : Note)]), cOwn (α := Raw 2) 60 u0_1 rr1_2, cRo Bs2_3] R := H.back H2_ rfl
 clear H2_
 refine s_val (x_bld (ps := [(0, I 0), (1, I 3), (2, I 8)]) (zs := [I 0, I 0, I 0]) (L' := [I 0, I 3, I 8]) rfl Try.underlying30 Al30 rfl (Bd30 Try.underlying30) (.cons (cs := [I 0]) rfl rfl rfl rfl rfl <| .cons (cs := [I 3]) rfl rfl rfl rfl rfl <| .cons (cs := [I 8]) rfl rfl rfl rfl rfl <| .nil)) <| s_val (x_bld (ps := [(0, I 0), (1, I 2), (2, I 7)]) (zs := [I 0, I 0, I 0]) (L' := [I 0, I 2, I 7]) rfl Try.underlying30 Al30 rfl (Bd30 Try.underlying30) (.cons (cs := [I 0]) rfl rfl rfl rfl rfl <| .cons (cs := [I 2]) rfl rfl rfl rfl rfl <| .cons (cs := [I 7]) rfl rfl rfl rfl rfl <| .nil)) <| s_val (x_bld (ps := [(0, I 1), (2, I 9)]) (zs := [I 0, I 0, I 0]) (L' := [I 1, I 0, I 9]) rfl Try.underlying30 Al30 rfl (Bd30 Try.underlying30) (.cons (cs := [I 1]) rfl rfl rfl rfl rfl <| .cons (cs := [I 9]) rfl rfl rfl rfl rfl <| .nil)) ?_
 refine t_bs (α := Note) T23 [.agg #[I 0, I 3, I 8], .agg #[I 0, I 2, I 7], .agg #[I 1, I 0, I 9]] [(⟨(0 : Int), (3 : Int), (8 : Int)⟩ : Note), (⟨(0 : Int), (2 : Int), (7 : Int)⟩ : Note), (⟨(1 : Int), (0 : Int), (9 : Int)⟩ : Note)] H rfl (.cons rfl (Flat.rep_enc _ (⟨(0 : Int), (3 : Int), (8 : Int)⟩ : Note)) <| .cons rfl (Flat.rep_enc _ (⟨(0 : Int), (2 : Int), (7 : Int)⟩ : Note)) <| .cons rfl (Flat.rep_enc _ (⟨(1 : Int), (0 : Int), (9 : Int)⟩ : Note)) <| .nil) rfl rfl rfl ?_
 intro v146z w147z H
 refine s_val (x_bld (ps := [(0, I 2), (1, I 26)]) (zs := [I 0, I 0]) (L' := [I 2, I 26]) rfl Try.underlying33 Al33 rfl (Bd33 Try.underlying33) (.cons (cs := [I 2]) rfl rfl rfl rfl rfl <| .cons (cs := [I 26]) rfl rfl rfl rfl rfl <| .nil)) <| s_val (x_bld (ps := [(0, I 3), (1, I 10)]) (zs := [I 0, I 0]) (L' := [I 3, I 10]) rfl Try.underlying33 Al33 rfl (Bd33 Try.underlying33) (.cons (cs := [I 3]) rfl rfl rfl rfl rfl <| .cons (cs := [I 10]) rfl rfl rfl rfl rfl <| .nil)) ?_
 refine t_bs (α := Pub) T24 [.agg #[I 2, I 26], .agg #[I 3, I 10]] [(⟨(2 : Int), (26 : Int)⟩ : Pub), (⟨(3 : Int), (10 : Int)⟩ : Pub)] H rfl (.cons rfl (Flat.rep_enc _ (⟨(2 : Int), (26 : Int)⟩ : Pub)) <| .cons rfl (Flat.rep_enc _ (⟨(3 : Int), (10 : Int)⟩ : Pub)) <| .nil) rfl rfl rfl ?_
 intro v148z w149z H
 obtain ⟨⟨l5, e5⟩, hx153z, hM⟩ := M.e_bind hM
 obtain ⟨hq154z, hq155z⟩ := Prod.mk.inj (M.e_pure hx153z)
 try dsimp only at hM
 refine s_call cf26 [u0_53, v146z, v148z] rfl (by have hc_ := (Withdrawn_any _ ((rowSl rfl (H.get (k := 2) rfl) (roLe _ (H.get (k := 3) rfl)) hf145z).mono (Cells.sup_le (ownLe _ (H.get (k := 2) rfl)) (roLe _ (H.get (k := 3) rfl)))) ((ownSl (H.get (k := 1) rfl)).mono (ownLe _ (H.get (k := 1) rfl))) ((ownSl (H.get (k := 0) rfl)).mono (ownLe _ (H.get (k := 0) rfl)))); rw [hq154z, hq155z] at hc_; exact hc_) ?_
 rintro _ w150z ⟨u151z, rfl, hs152z, hx_⟩
 obtain ⟨Bs_58, H, hs152z⟩ := H.fresh hx_ hs152z
 clear hx_
 have hl_hs152z := hs152z.len_le
 refine sM (.tuple #[u151z, I e5]) rfl <| sX [u151z, I e5] u151z rfl rfl <| sX [u151z, I e5] (I e5) rfl rfl <| sA u151z rfl <| sA (I e5) rfl <| s_nil <| sQ rfl <| sM (I e5) rfl <| sC e5 0 (e5 == 0) rfl rfl rfl <| sM (B (e5 == 0)) rfl <| g_val (e5 == 0) (gy_t rfl) (fun hg => x_mv (v := u151z) rfl) ?_
 refine t_gbs (α := Int) T34 (e5 == 0) (gy_t rfl) [I 0] [(0 : Int)] H (fun _ => rfl) (.cons rfl (Flat.rep_enc _ _) <| .nil) rfl rfl rfl ?_
 intro v156z Bs_59 w157z H hf158z
 obtain ⟨s6, hx159z, hM⟩ := M.e_bind hM
 replace hx159z := M.e_pure hx159z
 refine t_gcall (e5 == 0) (gy_t rfl) cf25 (B s6) (fun _ => [u151z, v156z]) (fun hg => lst2 (gd_of (c := e5 == 0) hg (u151z)) (gd_of (c := e5 == 0) hg (v156z))) H (fun hg => Ret.mono (same_int _ (hs152z.mono (roLe _ (H.get (k := 1) rfl))) ((hf158z hg).mono (roLe _ (H.get (k := 0) rfl)))) fun v_ w_ ⟨hv_, hx_⟩ => ⟨hv_.trans (congrArg B hx159z), H.ext hx_⟩) ?_
 intro w160z H
 refine s_val (x_pand (b := e5 == 0) (r := s6) rfl (fun hb => gd_of (c := e5 == 0) (by simp_all) (B s6)) rfl) <| sA (B ((e5 == 0) && s6)) rfl <| s_nil ?_
 refine W.ret ?_
 have hr_ := M.e_pure hM
 exact ⟨_, resE_tmp rfl, ⟨((e5 == 0) && s6), hr_, rfl, (H.pick [] (by decide) rfl)⟩⟩

end Go.Proofs.Ytndobgodeicloaa
end
section
set_option maxRecDepth 100000
set_option maxHeartbeats 16000000
namespace Go.Proofs.Ytndobgodeicloaa
open Go Go.Nm
def m_nilometerkit_New (bytes : List UInt8) : M (Int × Int) :=
  M.pure (0, 0)
theorem nilometerkit_New_ok {R : List Chunk} {C_bytes : Cells} {v_bytes : Value} (bytes : List UInt8) (hC_bytes : Reads R C_bytes) (hs_bytes : Sl C_bytes v_bytes bytes) {r : (Int × Int)} (hM : (m_nilometerkit_New bytes).Ends r) (w : World) (H : St w w [] R) : Ret Try.prog 40 #[v_bytes] w fun v w' => ∃ (y0 : Int) (y1 : Int) (nb0 : Nat), (y0, y1) = r ∧ v = Pz nb0 ∧ St w w' [cBlk nb0 [v_bytes, I y0, I y1] 158] R := by
 refine ret_of_W Try.func40 rfl rfl rfl ?_
 refine sQ rfl <| sA (.pointer none) rfl <| s_nil <| sQ rfl <| sM v_bytes rfl <| s_val (x_bld (ps := [(0, v_bytes)]) (zs := [.slice none 0 0, I 0, I 0]) (L' := [v_bytes, I 0, I 0]) rfl Try.underlying158 Al158 rfl (Bd158 Try.underlying158) (.cons (cs := [v_bytes]) (Sl.cells hs_bytes) rfl rfl rfl rfl <| .nil)) ?_
 refine t_box (v := .agg #[v_bytes, I 0, I 0]) (cs := [v_bytes, I 0, I 0]) H rfl rfl ?_
 intro b_1 w1z H
 refine sA (Pz b_1) rfl <| s_nil ?_
 refine W.ret ?_
 have hr_ := M.e_pure hM
 exact ⟨_, resE_tmp rfl, ⟨0, 0, b_1, hr_, rfl, H⟩⟩

def m_nilometerkit_Stream_Next (s_bytes : List UInt8) (s_used : Int) (s_mix : Int) (n : Int) : M (Int × Int × Int) :=
  bif ((decide (n < 2)) || ((s_bytes.length : Int) == 0)) then (
  M.pure (0, s_used, s_mix))
  else (
  M.grd (decide ((0 : Int) ≤ s_used) && decide ((0 : Int) < (s_bytes.length : Int))) <|
  M.grd (decide ((0 : Int) ≤ (s_used % (s_bytes.length : Int))) && decide ((s_used % (s_bytes.length : Int)) < (s_bytes.length : Int))) <|
  M.grd (decide ((0 : Int) ≤ ((s_bytes.getD (Int.toNat (s_used % (s_bytes.length : Int))) 0).toNat : Int)) && decide (((s_bytes.getD (Int.toNat (s_used % (s_bytes.length : Int))) 0).toNat : Int) < (256 : Int))) <|
  bif decide ((s_bytes.length : Int) ≤ s_used) then (
  M.grd (decide ((-9223372036854775808 : Int) ≤ (11 * s_mix)) && decide ((11 * s_mix) ≤ (9223372036854775807 : Int))) <|
  M.grd (decide (0 ≤ s_used) && decide (s_used ≤ (9223372036854775807 : Int)) && decide ((0 : Int) < (s_bytes.length : Int))) <|
  M.grd (decide ((-9223372036854775808 : Int) ≤ ((11 * s_mix) + (s_used / (s_bytes.length : Int)))) && decide (((11 * s_mix) + (s_used / (s_bytes.length : Int))) ≤ (9223372036854775807 : Int))) <|
  M.grd (decide ((-9223372036854775808 : Int) ≤ (((s_bytes.getD (Int.toNat (s_used % (s_bytes.length : Int))) 0).toNat : Int) + ((11 * s_mix) + (s_used / (s_bytes.length : Int))))) && decide ((((s_bytes.getD (Int.toNat (s_used % (s_bytes.length : Int))) 0).toNat : Int) + ((11 * s_mix) + (s_used / (s_bytes.length : Int)))) ≤ (9223372036854775807 : Int))) <|
  M.grd (decide ((-9223372036854775808 : Int) ≤ (5 * s_mix)) && decide ((5 * s_mix) ≤ (9223372036854775807 : Int))) <|
  M.grd (decide ((-9223372036854775808 : Int) ≤ ((5 * s_mix) + (((s_bytes.getD (Int.toNat (s_used % (s_bytes.length : Int))) 0).toNat : Int) + ((11 * s_mix) + (s_used / (s_bytes.length : Int)))))) && decide (((5 * s_mix) + (((s_bytes.getD (Int.toNat (s_used % (s_bytes.length : Int))) 0).toNat : Int) + ((11 * s_mix) + (s_used / (s_bytes.length : Int))))) ≤ (9223372036854775807 : Int))) <|
  M.grd (decide ((-9223372036854775808 : Int) ≤ (((5 * s_mix) + (((s_bytes.getD (Int.toNat (s_used % (s_bytes.length : Int))) 0).toNat : Int) + ((11 * s_mix) + (s_used / (s_bytes.length : Int))))) + 1)) && decide ((((5 * s_mix) + (((s_bytes.getD (Int.toNat (s_used % (s_bytes.length : Int))) 0).toNat : Int) + ((11 * s_mix) + (s_used / (s_bytes.length : Int))))) + 1) ≤ (9223372036854775807 : Int))) <|
  M.grd (decide ((0 : Int) ≤ (((5 * s_mix) + (((s_bytes.getD (Int.toNat (s_used % (s_bytes.length : Int))) 0).toNat : Int) + ((11 * s_mix) + (s_used / (s_bytes.length : Int))))) + 1)) && decide ((0 : Int) < 251)) <|
  M.grd (decide ((-9223372036854775808 : Int) ≤ (s_used + 1)) && decide ((s_used + 1) ≤ (9223372036854775807 : Int))) <|
  bif decide (256 < n) then (
  M.grd (decide ((-9223372036854775808 : Int) ≤ (256 * (((s_bytes.getD (Int.toNat (s_used % (s_bytes.length : Int))) 0).toNat : Int) + ((11 * s_mix) + (s_used / (s_bytes.length : Int)))))) && decide ((256 * (((s_bytes.getD (Int.toNat (s_used % (s_bytes.length : Int))) 0).toNat : Int) + ((11 * s_mix) + (s_used / (s_bytes.length : Int))))) ≤ (9223372036854775807 : Int))) <|
  M.grd (decide ((-9223372036854775808 : Int) ≤ ((256 * (((s_bytes.getD (Int.toNat (s_used % (s_bytes.length : Int))) 0).toNat : Int) + ((11 * s_mix) + (s_used / (s_bytes.length : Int))))) + ((((5 * s_mix) + (((s_bytes.getD (Int.toNat (s_used % (s_bytes.length : Int))) 0).toNat : Int) + ((11 * s_mix) + (s_used / (s_bytes.length : Int))))) + 1) % 251))) && decide (((256 * (((s_bytes.getD (Int.toNat (s_used % (s_bytes.length : Int))) 0).toNat : Int) + ((11 * s_mix) + (s_used / (s_bytes.length : Int))))) + ((((5 * s_mix) + (((s_bytes.getD (Int.toNat (s_used % (s_bytes.length : Int))) 0).toNat : Int) + ((11 * s_mix) + (s_used / (s_bytes.length : Int))))) + 1) % 251)) ≤ (9223372036854775807 : Int))) <|
  M.grd (decide ((0 : Int) ≤ ((256 * (((s_bytes.getD (Int.toNat (s_used % (s_bytes.length : Int))) 0).toNat : Int) + ((11 * s_mix) + (s_used / (s_bytes.length : Int))))) + ((((5 * s_mix) + (((s_bytes.getD (Int.toNat (s_used % (s_bytes.length : Int))) 0).toNat : Int) + ((11 * s_mix) + (s_used / (s_bytes.length : Int))))) + 1) % 251))) && decide ((0 : Int) < n)) <|
  M.pure ((((256 * (((s_bytes.getD (Int.toNat (s_used % (s_bytes.length : Int))) 0).toNat : Int) + ((11 * s_mix) + (s_used / (s_bytes.length : Int))))) + ((((5 * s_mix) + (((s_bytes.getD (Int.toNat (s_used % (s_bytes.length : Int))) 0).toNat : Int) + ((11 * s_mix) + (s_used / (s_bytes.length : Int))))) + 1) % 251)) % n), (s_used + 1), ((((5 * s_mix) + (((s_bytes.getD (Int.toNat (s_used % (s_bytes.length : Int))) 0).toNat : Int) + ((11 * s_mix) + (s_used / (s_bytes.length : Int))))) + 1) % 251)))
  else (
  M.grd (decide ((0 : Int) ≤ (((s_bytes.getD (Int.toNat (s_used % (s_bytes.length : Int))) 0).toNat : Int) + ((11 * s_mix) + (s_used / (s_bytes.length : Int))))) && decide ((0 : Int) < n)) <|
  M.pure (((((s_bytes.getD (Int.toNat (s_used % (s_bytes.length : Int))) 0).toNat : Int) + ((11 * s_mix) + (s_used / (s_bytes.length : Int)))) % n), (s_used + 1), ((((5 * s_mix) + (((s_bytes.getD (Int.toNat (s_used % (s_bytes.length : Int))) 0).toNat : Int) + ((11 * s_mix) + (s_used / (s_bytes.length : Int))))) + 1) % 251))))
  else (
  M.grd (decide ((-9223372036854775808 : Int) ≤ (5 * s_mix)) && decide ((5 * s_mix) ≤ (9223372036854775807 : Int))) <|
  M.grd (decide ((-9223372036854775808 : Int) ≤ ((5 * s_mix) + ((s_bytes.getD (Int.toNat (s_used % (s_bytes.length : Int))) 0).toNat : Int))) && decide (((5 * s_mix) + ((s_bytes.getD (Int.toNat (s_used % (s_bytes.length : Int))) 0).toNat : Int)) ≤ (9223372036854775807 : Int))) <|
  M.grd (decide ((-9223372036854775808 : Int) ≤ (((5 * s_mix) + ((s_bytes.getD (Int.toNat (s_used % (s_bytes.length : Int))) 0).toNat : Int)) + 1)) && decide ((((5 * s_mix) + ((s_bytes.getD (Int.toNat (s_used % (s_bytes.length : Int))) 0).toNat : Int)) + 1) ≤ (9223372036854775807 : Int))) <|
  M.grd (decide ((0 : Int) ≤ (((5 * s_mix) + ((s_bytes.getD (Int.toNat (s_used % (s_bytes.length : Int))) 0).toNat : Int)) + 1)) && decide ((0 : Int) < 251)) <|
  M.grd (decide ((-9223372036854775808 : Int) ≤ (s_used + 1)) && decide ((s_used + 1) ≤ (9223372036854775807 : Int))) <|
  bif decide (256 < n) then (
  M.grd (decide ((-9223372036854775808 : Int) ≤ (256 * ((s_bytes.getD (Int.toNat (s_used % (s_bytes.length : Int))) 0).toNat : Int))) && decide ((256 * ((s_bytes.getD (Int.toNat (s_used % (s_bytes.length : Int))) 0).toNat : Int)) ≤ (9223372036854775807 : Int))) <|
  M.grd (decide ((-9223372036854775808 : Int) ≤ ((256 * ((s_bytes.getD (Int.toNat (s_used % (s_bytes.length : Int))) 0).toNat : Int)) + ((((5 * s_mix) + ((s_bytes.getD (Int.toNat (s_used % (s_bytes.length : Int))) 0).toNat : Int)) + 1) % 251))) && decide (((256 * ((s_bytes.getD (Int.toNat (s_used % (s_bytes.length : Int))) 0).toNat : Int)) + ((((5 * s_mix) + ((s_bytes.getD (Int.toNat (s_used % (s_bytes.length : Int))) 0).toNat : Int)) + 1) % 251)) ≤ (9223372036854775807 : Int))) <|
  M.grd (decide ((0 : Int) ≤ ((256 * ((s_bytes.getD (Int.toNat (s_used % (s_bytes.length : Int))) 0).toNat : Int)) + ((((5 * s_mix) + ((s_bytes.getD (Int.toNat (s_used % (s_bytes.length : Int))) 0).toNat : Int)) + 1) % 251))) && decide ((0 : Int) < n)) <|
  M.pure ((((256 * ((s_bytes.getD (Int.toNat (s_used % (s_bytes.length : Int))) 0).toNat : Int)) + ((((5 * s_mix) + ((s_bytes.getD (Int.toNat (s_used % (s_bytes.length : Int))) 0).toNat : Int)) + 1) % 251)) % n), (s_used + 1), ((((5 * s_mix) + ((s_bytes.getD (Int.toNat (s_used % (s_bytes.length : Int))) 0).toNat : Int)) + 1) % 251)))
  else (
  M.grd (decide ((0 : Int) ≤ ((s_bytes.getD (Int.toNat (s_used % (s_bytes.length : Int))) 0).toNat : Int)) && decide ((0 : Int) < n)) <|
  M.pure ((((s_bytes.getD (Int.toNat (s_used % (s_bytes.length : Int))) 0).toNat : Int) % n), (s_used + 1), ((((5 * s_mix) + ((s_bytes.getD (Int.toNat (s_used % (s_bytes.length : Int))) 0).toNat : Int)) + 1) % 251)))))
theorem nilometerkit_Stream_Next_ok {R : List Chunk} {b_s : Nat} {C_s_bytes : Cells} {v_s_bytes : Value} (s_bytes : List UInt8) (s_used : Int) (s_mix : Int) (n : Int) (hC_s_bytes : Reads R C_s_bytes) (hs_s_bytes : Sl C_s_bytes v_s_bytes s_bytes) {r : (Int × Int × Int)} (hM : (m_nilometerkit_Stream_Next s_bytes s_used s_mix n).Ends r) (w : World) (H : St w w [cBlk b_s [v_s_bytes, I s_used, I s_mix] 158] R) : Ret Try.prog 44 #[Pz b_s, I n] w fun v w' => ∃ (y0 : Int) (y1 : Int) (y2 : Int), (y0, y1, y2) = r ∧ v = I y0 ∧ St w w' [cBlk b_s [v_s_bytes, I y1, I y2] 158] R := by
 refine ret_of_W Try.func44 rfl rfl rfl ?_
 refine sQ rfl <| sA (I 0) rfl <| s_nil <| W.seq <| sQ rfl <| sM (I n) rfl <| sC n 2 (decide (n < 2)) rfl rfl rfl <| sM (B (decide (n < 2))) rfl <| g_val (!(decide (n < 2))) (gy_f rfl) (fun hg => x_mv (v := Pz b_s) rfl) <| g_val (!(decide (n < 2))) (gy_f rfl) (fun hg => x_nc (a := ⟨b_s, 0, none⟩) (gd_of (c := !(decide (n < 2))) hg (Pz b_s))) ?_
 refine g_val (!(decide (n < 2))) (gy_f rfl) (fun hg => x_fa (a := Pz b_s) (v := Pz b_s) (gd_of (c := !(decide (n < 2))) hg (Pz b_s)) (fa_blk (o := 0) Fd158_0 Sz62)) <| g_val (!(decide (n < 2))) (gy_f rfl) (fun hg => x_ld (p := Pz b_s) (v := v_s_bytes) (gd_of (c := !(decide (n < 2))) hg (Pz b_s)) (ldb_sc Sc62 (H.blk (k := 0) rfl) rfl)) <| g_val (!(decide (n < 2))) (gy_f rfl) (fun hg => x_lenS T62.und (gd_of (c := !(decide (n < 2))) hg (v_s_bytes)) hs_s_bytes) <| g_val (!(decide (n < 2))) (gy_f rfl) (fun hg => x_cmp (kd := .i64) (a := (s_bytes.length : Int)) (b := 0) (r := (s_bytes.length : Int) == 0) (gd_of (c := !(decide (n < 2))) hg (I (s_bytes.length : Int))) rfl rfl) <| s_val (x_por (b := decide (n < 2)) (r := (s_bytes.length : Int) == 0) rfl rfl (fun hb => gd_of (c := !(decide (n < 2))) (by simp_all) (B ((s_bytes.length : Int) == 0)))) <| s_nil ?_
 refine W.cond ((decide (n < 2)) || ((s_bytes.length : Int) == 0)) rfl (fun c2z => ?_) (fun c2z => ?_)
 ·replace hM := M.e_t hM c2z
  refine sQ rfl <| sA (I 0) rfl <| s_nil ?_
  refine W.ret ?_
  have hr_ := M.e_pure hM
  exact ⟨_, resE_tmp rfl, ⟨0, s_used, s_mix, hr_, rfl, H⟩⟩
 replace hM := M.e_f hM c2z
 refine W.skip <| W.seq ?_
 refine W.draw (fun W => St w W [cBlk b_s [v_s_bytes, I s_used, I s_mix] 158] R) [(0, true), (1, true), (2, true), (3, true), (4, true), (5, true), (6, true), (7, true), (8, true), (9, true), (10, true), (11, true), (12, true), (13, true), (14, true), (15, true), (16, true), (17, true)] mixed (by decide +kernel) rfl ?_
 intro w3z hx_
 replace H : St w w3z [cBlk b_s [v_s_bytes, I s_used, I s_mix] 158] R := H.ext hx_
 clear hx_
 refine ⟨(H.pick [0] (by decide) rfl), ?_⟩
 refine d_q rfl (fun w' H => x_mv (v := Pz b_s) rfl) ?_
 refine d_q rfl (fun w' H => x_nc (a := ⟨b_s, 0, none⟩) rfl) ?_
 refine d_q rfl (fun w' H => x_fa (a := Pz b_s) (v := Pz b_s) rfl (fa_blk (o := 0) Fd158_0 Sz62)) ?_
 refine d_q rfl (fun w' H => x_ld (p := Pz b_s) (v := v_s_bytes) rfl (ldb_sc Sc62 (H.blk (k := 0) rfl) rfl)) ?_
 refine d_q rfl (fun w' H => x_mv (v := Pz b_s) rfl) ?_
 refine d_q rfl (fun w' H => x_nc (a := ⟨b_s, 0, none⟩) rfl) ?_
 refine d_q rfl (fun w' H => x_fa (a := Pz b_s) (v := Oz b_s 1) rfl (fa_blk (o := 0) Fd158_1 Sz3)) ?_
 refine d_q rfl (fun w' H => x_ld (p := Oz b_s 1) (v := I s_used) rfl (ldb_sc Sc3 (H.blk (k := 0) rfl) rfl)) ?_
 refine d_q rfl (fun w' H => x_mv (v := Pz b_s) rfl) ?_
 refine d_q rfl (fun w' H => x_nc (a := ⟨b_s, 0, none⟩) rfl) ?_
 refine d_q rfl (fun w' H => x_fa (a := Pz b_s) (v := Pz b_s) rfl (fa_blk (o := 0) Fd158_0 Sz62)) ?_
 refine d_q rfl (fun w' H => x_ld (p := Pz b_s) (v := v_s_bytes) rfl (ldb_sc Sc62 (H.blk (k := 0) rfl) rfl)) ?_
 have hl4z := (hs_s_bytes).len_le
 refine d_q rfl (fun w' H => x_lenS T62.und rfl hs_s_bytes) ?_
 obtain ⟨sd5z, hM⟩ := M.e_gd hM
 refine d_q rfl (fun w' H => x_rem' (a := s_used) (b := (s_bytes.length : Int)) rfl rfl (by omega)) ?_
 obtain ⟨sd6z, hM⟩ := M.e_gd hM
 refine d_q rfl (fun w' H => x_ix (a := v_s_bytes) (b := I (s_used % (s_bytes.length : Int))) (v := vat v_s_bytes 1 (Int.toNat (s_used % (s_bytes.length : Int)))) rfl rfl (Sl.ix (α := UInt8) T62.und T62.size hs_s_bytes (by omega) (by omega))) ?_
 refine d_q rfl (fun w' H => x_ld (p := vat v_s_bytes 1 (Int.toNat (s_used % (s_bytes.length : Int)))) (v := .int .u8 (((s_bytes.getD (Int.toNat (s_used % (s_bytes.length : Int))) 0).toNat : Int))) rfl (ld_sc Sc5 (At.mono (UInt8_at hs_s_bytes (i := s_used % (s_bytes.length : Int)) (by omega) (by omega)) (hC_s_bytes.at H)))) ?_
 obtain ⟨sd7z, hM⟩ := M.e_gd hM
 refine d_q rfl (fun w' H => x_conv64 (kd := .u8) (a := ((s_bytes.getD (Int.toNat (s_used % (s_bytes.length : Int))) 0).toNat : Int)) Try.underlying5 Try.underlying3 rfl (by omega)) ?_
 refine d_q rfl (fun w' H => x_as (v := I ((s_bytes.getD (Int.toNat (s_used % (s_bytes.length : Int))) 0).toNat : Int)) rfl) ?_
 refine d_nil ?_
 refine W.seq <| W.seq ?_
 refine W.draw (fun W => St w W [cBlk b_s [v_s_bytes, I s_used, I s_mix] 158] R) [(0, true), (1, true), (2, true), (3, true), (4, true), (5, true), (6, true), (7, true), (8, true), (9, true)] mixed (by decide +kernel) rfl ?_
 intro w8z hx_
 replace H : St w w8z [cBlk b_s [v_s_bytes, I s_used, I s_mix] 158] R := H.ext hx_
 clear hx_
 refine ⟨(H.pick [0] (by decide) rfl), ?_⟩
 refine d_q rfl (fun w' H => x_mv (v := Pz b_s) rfl) ?_
 refine d_q rfl (fun w' H => x_nc (a := ⟨b_s, 0, none⟩) rfl) ?_
 refine d_q rfl (fun w' H => x_fa (a := Pz b_s) (v := Oz b_s 1) rfl (fa_blk (o := 0) Fd158_1 Sz3)) ?_
 refine d_q rfl (fun w' H => x_ld (p := Oz b_s 1) (v := I s_used) rfl (ldb_sc Sc3 (H.blk (k := 0) rfl) rfl)) ?_
 refine d_q rfl (fun w' H => x_mv (v := Pz b_s) rfl) ?_
 refine d_q rfl (fun w' H => x_nc (a := ⟨b_s, 0, none⟩) rfl) ?_
 refine d_q rfl (fun w' H => x_fa (a := Pz b_s) (v := Pz b_s) rfl (fa_blk (o := 0) Fd158_0 Sz62)) ?_
 refine d_q rfl (fun w' H => x_ld (p := Pz b_s) (v := v_s_bytes) rfl (ldb_sc Sc62 (H.blk (k := 0) rfl) rfl)) ?_
 have hl9z := (hs_s_bytes).len_le
 refine d_q rfl (fun w' H => x_lenS T62.und rfl hs_s_bytes) ?_
 refine d_q rfl (fun w' H => x_cmp (kd := .i64) (a := s_used) (b := (s_bytes.length : Int)) (r := decide ((s_bytes.length : Int) ≤ s_used)) rfl rfl rfl) ?_
 refine d_nil ?_
 refine W.cond (decide ((s_bytes.length : Int) ≤ s_used)) rfl (fun c10z => ?_) (fun c10z => ?_)
 ·replace hM := M.e_t hM c10z
  simp only [qz1, qz2, qz3, qz4, qz5, qz6, ne_eq, qz7] at c10z
  refine W.draw (fun W => St w W [cBlk b_s [v_s_bytes, I s_used, I s_mix] 158] R) [(0, true), (1, true), (2, true), (3, true), (4, true), (5, true), (6, true), (7, true), (8, true), (9, true), (10, true), (11, true), (12, true), (13, true), (14, true), (15, true), (16, true), (17, true), (18, true)] mixed (by decide +kernel) rfl ?_
  intro w11z hx_
  replace H : St w w11z [cBlk b_s [v_s_bytes, I s_used, I s_mix] 158] R := H.ext hx_
  clear hx_
  refine ⟨(H.pick [0] (by decide) rfl), ?_⟩
  refine d_q rfl (fun w' H => x_mv (v := I ((s_bytes.getD (Int.toNat (s_used % (s_bytes.length : Int))) 0).toNat : Int)) rfl) ?_
  refine d_q rfl (fun w' H => x_mv (v := Pz b_s) rfl) ?_
  refine d_q rfl (fun w' H => x_nc (a := ⟨b_s, 0, none⟩) rfl) ?_
  refine d_q rfl (fun w' H => x_fa (a := Pz b_s) (v := Oz b_s 2) rfl (fa_blk (o := 0) Fd158_2 Sz3)) ?_
  refine d_q rfl (fun w' H => x_ld (p := Oz b_s 2) (v := I s_mix) rfl (ldb_sc Sc3 (H.blk (k := 0) rfl) rfl)) ?_
  obtain ⟨sd12z, hM⟩ := M.e_gd hM
  refine d_q rfl (fun w' H => x_ari (a := 11) (b := s_mix) (r := 11 * s_mix) rfl rfl rfl (by omega)) ?_
  refine d_q rfl (fun w' H => x_mv (v := Pz b_s) rfl) ?_
  refine d_q rfl (fun w' H => x_nc (a := ⟨b_s, 0, none⟩) rfl) ?_
  refine d_q rfl (fun w' H => x_fa (a := Pz b_s) (v := Oz b_s 1) rfl (fa_blk (o := 0) Fd158_1 Sz3)) ?_
  refine d_q rfl (fun w' H => x_ld (p := Oz b_s 1) (v := I s_used) rfl (ldb_sc Sc3 (H.blk (k := 0) rfl) rfl)) ?_
  refine d_q rfl (fun w' H => x_mv (v := Pz b_s) rfl) ?_
  refine d_q rfl (fun w' H => x_nc (a := ⟨b_s, 0, none⟩) rfl) ?_
  refine d_q rfl (fun w' H => x_fa (a := Pz b_s) (v := Pz b_s) rfl (fa_blk (o := 0) Fd158_0 Sz62)) ?_
  refine d_q rfl (fun w' H => x_ld (p := Pz b_s) (v := v_s_bytes) rfl (ldb_sc Sc62 (H.blk (k := 0) rfl) rfl)) ?_
  have hl13z := (hs_s_bytes).len_le
  refine d_q rfl (fun w' H => x_lenS T62.und rfl hs_s_bytes) ?_
  obtain ⟨sd14z, hM⟩ := M.e_gd hM
  refine d_q rfl (fun w' H => x_quo (a := s_used) (b := (s_bytes.length : Int)) rfl rfl (by omega)) ?_
  obtain ⟨sd15z, hM⟩ := M.e_gd hM
  refine d_q rfl (fun w' H => x_ari (a := 11 * s_mix) (b := s_used / (s_bytes.length : Int)) (r := (11 * s_mix) + (s_used / (s_bytes.length : Int))) rfl rfl rfl (by omega)) ?_
  obtain ⟨sd16z, hM⟩ := M.e_gd hM
  refine d_q rfl (fun w' H => x_ari (a := ((s_bytes.getD (Int.toNat (s_used % (s_bytes.length : Int))) 0).toNat : Int)) (b := (11 * s_mix) + (s_used / (s_bytes.length : Int))) (r := ((s_bytes.getD (Int.toNat (s_used % (s_bytes.length : Int))) 0).toNat : Int) + ((11 * s_mix) + (s_used / (s_bytes.length : Int)))) rfl rfl rfl (by omega)) ?_
  refine d_q rfl (fun w' H => x_as (v := I (((s_bytes.getD (Int.toNat (s_used % (s_bytes.length : Int))) 0).toNat : Int) + ((11 * s_mix) + (s_used / (s_bytes.length : Int))))) rfl) ?_
  refine d_nil ?_
  refine sQ rfl <| sM (Pz b_s) rfl <| sM (Pz b_s) rfl <| s_val (x_nc (a := ⟨b_s, 0, none⟩) rfl) <| s_val (x_fa (a := Pz b_s) (v := Oz b_s 2) rfl (fa_blk (o := 0) Fd158_2 Sz3)) <| s_val (x_ld (p := Oz b_s 2) (v := I s_mix) rfl (ldb_sc Sc3 (H.blk (k := 0) rfl) rfl)) ?_
  obtain ⟨sd17z, hM⟩ := M.e_gd hM
  refine sR 5 s_mix (5 * s_mix) rfl rfl rfl (by omega) <| sM (I (((s_bytes.getD (Int.toNat (s_used % (s_bytes.length : Int))) 0).toNat : Int) + ((11 * s_mix) + (s_used / (s_bytes.length : Int))))) rfl ?_
  obtain ⟨sd18z, hM⟩ := M.e_gd hM
  refine sR (5 * s_mix) (((s_bytes.getD (Int.toNat (s_used % (s_bytes.length : Int))) 0).toNat : Int) + ((11 * s_mix) + (s_used / (s_bytes.length : Int)))) ((5 * s_mix) + (((s_bytes.getD (Int.toNat (s_used % (s_bytes.length : Int))) 0).toNat : Int) + ((11 * s_mix) + (s_used / (s_bytes.length : Int))))) rfl rfl rfl (by omega) ?_
  obtain ⟨sd19z, hM⟩ := M.e_gd hM
  refine sR ((5 * s_mix) + (((s_bytes.getD (Int.toNat (s_used % (s_bytes.length : Int))) 0).toNat : Int) + ((11 * s_mix) + (s_used / (s_bytes.length : Int))))) 1 (((5 * s_mix) + (((s_bytes.getD (Int.toNat (s_used % (s_bytes.length : Int))) 0).toNat : Int) + ((11 * s_mix) + (s_used / (s_bytes.length : Int))))) + 1) rfl rfl rfl (by omega) ?_
  obtain ⟨sd20z, hM⟩ := M.e_gd hM
  refine s_val (x_rem' (a := ((5 * s_mix) + (((s_bytes.getD (Int.toNat (s_used % (s_bytes.length : Int))) 0).toNat : Int) + ((11 * s_mix) + (s_used / (s_bytes.length : Int))))) + 1) (b := 251) rfl rfl (by omega)) <| s_val (x_nc (a := ⟨b_s, 0, none⟩) rfl) <| s_val (x_fa (a := Pz b_s) (v := Oz b_s 2) rfl (fa_blk (o := 0) Fd158_2 Sz3)) ?_
  refine t_st (k := 0) (b := b_s) (off := 2) (cs := [v_s_bytes, I s_used, I s_mix]) (vs := [I ((((5 * s_mix) + (((s_bytes.getD (Int.toNat (s_used % (s_bytes.length : Int))) 0).toNat : Int) + ((11 * s_mix) + (s_used / (s_bytes.length : Int))))) + 1) % 251)]) (cs' := [v_s_bytes, I s_used, I ((((5 * s_mix) + (((s_bytes.getD (Int.toNat (s_used % (s_bytes.length : Int))) 0).toNat : Int) + ((11 * s_mix) + (s_used / (s_bytes.length : Int))))) + 1) % 251)]) (v := I ((((5 * s_mix) + (((s_bytes.getD (Int.toNat (s_used % (s_bytes.length : Int))) 0).toNat : Int) + ((11 * s_mix) + (s_used / (s_bytes.length : Int))))) + 1) % 251)) (L' := [cBlk b_s [v_s_bytes, I s_used, I ((((5 * s_mix) + (((s_bytes.getD (Int.toNat (s_used % (s_bytes.length : Int))) 0).toNat : Int) + ((11 * s_mix) + (s_used / (s_bytes.length : Int))))) + 1) % 251)] 158]) H rfl rfl rfl Sz3 rfl rfl rfl rfl rfl rfl ?_
  intro w21z H
  refine s_nil <| sQ rfl <| sM (Pz b_s) rfl <| s_val (x_nc (a := ⟨b_s, 0, none⟩) rfl) <| s_val (x_fa (a := Pz b_s) (v := Oz b_s 1) rfl (fa_blk (o := 0) Fd158_1 Sz3)) <| s_val (x_ld (p := Oz b_s 1) (v := I s_used) rfl (ldb_sc Sc3 (H.blk (k := 0) rfl) rfl)) ?_
  obtain ⟨sd22z, hM⟩ := M.e_gd hM
  refine sR s_used 1 (s_used + 1) rfl rfl rfl (by omega) <| s_val (x_nc (a := ⟨b_s, 0, none⟩) rfl) <| s_val (x_fa (a := Pz b_s) (v := Oz b_s 1) rfl (fa_blk (o := 0) Fd158_1 Sz3)) ?_
  refine t_st (k := 0) (b := b_s) (off := 1) (cs := [v_s_bytes, I s_used, I ((((5 * s_mix) + (((s_bytes.getD (Int.toNat (s_used % (s_bytes.length : Int))) 0).toNat : Int) + ((11 * s_mix) + (s_used / (s_bytes.length : Int))))) + 1) % 251)]) (vs := [I (s_used + 1)]) (cs' := [v_s_bytes, I (s_used + 1), I ((((5 * s_mix) + (((s_bytes.getD (Int.toNat (s_used % (s_bytes.length : Int))) 0).toNat : Int) + ((11 * s_mix) + (s_used / (s_bytes.length : Int))))) + 1) % 251)]) (v := I (s_used + 1)) (L' := [cBlk b_s [v_s_bytes, I (s_used + 1), I ((((5 * s_mix) + (((s_bytes.getD (Int.toNat (s_used % (s_bytes.length : Int))) 0).toNat : Int) + ((11 * s_mix) + (s_used / (s_bytes.length : Int))))) + 1) % 251)] 158]) H rfl rfl rfl Sz3 rfl rfl rfl rfl rfl rfl ?_
  intro w23z H
  refine s_nil <| W.seq <| sQ rfl <| sM (I n) rfl <| sC n 256 (decide (256 < n)) rfl rfl rfl <| s_nil ?_
  refine W.cond (decide (256 < n)) rfl (fun c24z => ?_) (fun c24z => ?_)
  ·replace hM := M.e_t hM c24z
   simp only [qz1, qz2, qz3, qz4, qz5, qz6, ne_eq, qz7] at c24z
   refine W.region rfl <| sM (I (((s_bytes.getD (Int.toNat (s_used % (s_bytes.length : Int))) 0).toNat : Int) + ((11 * s_mix) + (s_used / (s_bytes.length : Int))))) rfl ?_
   obtain ⟨sd25z, hM⟩ := M.e_gd hM
   refine sR 256 (((s_bytes.getD (Int.toNat (s_used % (s_bytes.length : Int))) 0).toNat : Int) + ((11 * s_mix) + (s_used / (s_bytes.length : Int)))) (256 * (((s_bytes.getD (Int.toNat (s_used % (s_bytes.length : Int))) 0).toNat : Int) + ((11 * s_mix) + (s_used / (s_bytes.length : Int))))) rfl rfl rfl (by omega) <| sM (Pz b_s) rfl <| s_val (x_nc (a := ⟨b_s, 0, none⟩) rfl) <| s_val (x_fa (a := Pz b_s) (v := Oz b_s 2) rfl (fa_blk (o := 0) Fd158_2 Sz3)) <| s_val (x_ld (p := Oz b_s 2) (v := I ((((5 * s_mix) + (((s_bytes.getD (Int.toNat (s_used % (s_bytes.length : Int))) 0).toNat : Int) + ((11 * s_mix) + (s_used / (s_bytes.length : Int))))) + 1) % 251)) rfl (ldb_sc Sc3 (H.blk (k := 0) rfl) rfl)) ?_
   obtain ⟨sd26z, hM⟩ := M.e_gd hM
   refine sR (256 * (((s_bytes.getD (Int.toNat (s_used % (s_bytes.length : Int))) 0).toNat : Int) + ((11 * s_mix) + (s_used / (s_bytes.length : Int))))) ((((5 * s_mix) + (((s_bytes.getD (Int.toNat (s_used % (s_bytes.length : Int))) 0).toNat : Int) + ((11 * s_mix) + (s_used / (s_bytes.length : Int))))) + 1) % 251) ((256 * (((s_bytes.getD (Int.toNat (s_used % (s_bytes.length : Int))) 0).toNat : Int) + ((11 * s_mix) + (s_used / (s_bytes.length : Int))))) + ((((5 * s_mix) + (((s_bytes.getD (Int.toNat (s_used % (s_bytes.length : Int))) 0).toNat : Int) + ((11 * s_mix) + (s_used / (s_bytes.length : Int))))) + 1) % 251)) rfl rfl rfl (by omega) <| sA (I ((256 * (((s_bytes.getD (Int.toNat (s_used % (s_bytes.length : Int))) 0).toNat : Int) + ((11 * s_mix) + (s_used / (s_bytes.length : Int))))) + ((((5 * s_mix) + (((s_bytes.getD (Int.toNat (s_used % (s_bytes.length : Int))) 0).toNat : Int) + ((11 * s_mix) + (s_used / (s_bytes.length : Int))))) + 1) % 251))) rfl <| s_nil <| sQ rfl <| sM (I ((256 * (((s_bytes.getD (Int.toNat (s_used % (s_bytes.length : Int))) 0).toNat : Int) + ((11 * s_mix) + (s_used / (s_bytes.length : Int))))) + ((((5 * s_mix) + (((s_bytes.getD (Int.toNat (s_used % (s_bytes.length : Int))) 0).toNat : Int) + ((11 * s_mix) + (s_used / (s_bytes.length : Int))))) + 1) % 251))) rfl <| sM (I n) rfl ?_
   obtain ⟨sd27z, hM⟩ := M.e_gd hM
   refine s_val (x_rem' (a := (256 * (((s_bytes.getD (Int.toNat (s_used % (s_bytes.length : Int))) 0).toNat : Int) + ((11 * s_mix) + (s_used / (s_bytes.length : Int))))) + ((((5 * s_mix) + (((s_bytes.getD (Int.toNat (s_used % (s_bytes.length : Int))) 0).toNat : Int) + ((11 * s_mix) + (s_used / (s_bytes.length : Int))))) + 1) % 251)) (b := n) rfl rfl (by omega)) <| sA (I (((256 * (((s_bytes.getD (Int.toNat (s_used % (s_bytes.length : Int))) 0).toNat : Int) + ((11 * s_mix) + (s_used / (s_bytes.length : Int))))) + ((((5 * s_mix) + (((s_bytes.getD (Int.toNat (s_used % (s_bytes.length : Int))) 0).toNat : Int) + ((11 * s_mix) + (s_used / (s_bytes.length : Int))))) + 1) % 251)) % n)) rfl <| s_nil ?_
   refine W.ret ?_
   have hr_ := M.e_pure hM
   exact ⟨_, resE_tmp rfl, ⟨(((256 * (((s_bytes.getD (Int.toNat (s_used % (s_bytes.length : Int))) 0).toNat : Int) + ((11 * s_mix) + (s_used / (s_bytes.length : Int))))) + ((((5 * s_mix) + (((s_bytes.getD (Int.toNat (s_used % (s_bytes.length : Int))) 0).toNat : Int) + ((11 * s_mix) + (s_used / (s_bytes.length : Int))))) + 1) % 251)) % n), (s_used + 1), ((((5 * s_mix) + (((s_bytes.getD (Int.toNat (s_used % (s_bytes.length : Int))) 0).toNat : Int) + ((11 * s_mix) + (s_used / (s_bytes.length : Int))))) + 1) % 251), hr_, rfl, H⟩⟩
  replace hM := M.e_f hM c24z
  simp only [qz1, qz2, qz3, qz4, qz5, qz6, ne_eq, qz7] at c24z
  refine W.skip <| sQ rfl <| sM (I (((s_bytes.getD (Int.toNat (s_used % (s_bytes.length : Int))) 0).toNat : Int) + ((11 * s_mix) + (s_used / (s_bytes.length : Int))))) rfl <| sM (I n) rfl ?_
  obtain ⟨sd28z, hM⟩ := M.e_gd hM
  refine s_val (x_rem' (a := ((s_bytes.getD (Int.toNat (s_used % (s_bytes.length : Int))) 0).toNat : Int) + ((11 * s_mix) + (s_used / (s_bytes.length : Int)))) (b := n) rfl rfl (by omega)) <| sA (I ((((s_bytes.getD (Int.toNat (s_used % (s_bytes.length : Int))) 0).toNat : Int) + ((11 * s_mix) + (s_used / (s_bytes.length : Int)))) % n)) rfl <| s_nil ?_
  refine W.ret ?_
  have hr_ := M.e_pure hM
  exact ⟨_, resE_tmp rfl, ⟨((((s_bytes.getD (Int.toNat (s_used % (s_bytes.length : Int))) 0).toNat : Int) + ((11 * s_mix) + (s_used / (s_bytes.length : Int)))) % n), (s_used + 1), ((((5 * s_mix) + (((s_bytes.getD (Int.toNat (s_used % (s_bytes.length : Int))) 0).toNat : Int) + ((11 * s_mix) + (s_used / (s_bytes.length : Int))))) + 1) % 251), hr_, rfl, H⟩⟩
 replace hM := M.e_f hM c10z
 simp only [qz1, qz2, qz3, qz4, qz5, qz6, ne_eq, qz7] at c10z
 refine W.skip <| sQ rfl <| sM (Pz b_s) rfl <| sM (Pz b_s) rfl <| s_val (x_nc (a := ⟨b_s, 0, none⟩) rfl) <| s_val (x_fa (a := Pz b_s) (v := Oz b_s 2) rfl (fa_blk (o := 0) Fd158_2 Sz3)) <| s_val (x_ld (p := Oz b_s 2) (v := I s_mix) rfl (ldb_sc Sc3 (H.blk (k := 0) rfl) rfl)) ?_
 obtain ⟨sd29z, hM⟩ := M.e_gd hM
 refine sR 5 s_mix (5 * s_mix) rfl rfl rfl (by omega) <| sM (I ((s_bytes.getD (Int.toNat (s_used % (s_bytes.length : Int))) 0).toNat : Int)) rfl ?_
 obtain ⟨sd30z, hM⟩ := M.e_gd hM
 refine sR (5 * s_mix) ((s_bytes.getD (Int.toNat (s_used % (s_bytes.length : Int))) 0).toNat : Int) ((5 * s_mix) + ((s_bytes.getD (Int.toNat (s_used % (s_bytes.length : Int))) 0).toNat : Int)) rfl rfl rfl (by omega) ?_
 obtain ⟨sd31z, hM⟩ := M.e_gd hM
 refine sR ((5 * s_mix) + ((s_bytes.getD (Int.toNat (s_used % (s_bytes.length : Int))) 0).toNat : Int)) 1 (((5 * s_mix) + ((s_bytes.getD (Int.toNat (s_used % (s_bytes.length : Int))) 0).toNat : Int)) + 1) rfl rfl rfl (by omega) ?_
 obtain ⟨sd32z, hM⟩ := M.e_gd hM
 refine s_val (x_rem' (a := ((5 * s_mix) + ((s_bytes.getD (Int.toNat (s_used % (s_bytes.length : Int))) 0).toNat : Int)) + 1) (b := 251) rfl rfl (by omega)) <| s_val (x_nc (a := ⟨b_s, 0, none⟩) rfl) <| s_val (x_fa (a := Pz b_s) (v := Oz b_s 2) rfl (fa_blk (o := 0) Fd158_2 Sz3)) ?_
 refine t_st (k := 0) (b := b_s) (off := 2) (cs := [v_s_bytes, I s_used, I s_mix]) (vs := [I ((((5 * s_mix) + ((s_bytes.getD (Int.toNat (s_used % (s_bytes.length : Int))) 0).toNat : Int)) + 1) % 251)]) (cs' := [v_s_bytes, I s_used, I ((((5 * s_mix) + ((s_bytes.getD (Int.toNat (s_used % (s_bytes.length : Int))) 0).toNat : Int)) + 1) % 251)]) (v := I ((((5 * s_mix) + ((s_bytes.getD (Int.toNat (s_used % (s_bytes.length : Int))) 0).toNat : Int)) + 1) % 251)) (L' := [cBlk b_s [v_s_bytes, I s_used, I ((((5 * s_mix) + ((s_bytes.getD (Int.toNat (s_used % (s_bytes.length : Int))) 0).toNat : Int)) + 1) % 251)] 158]) H rfl rfl rfl Sz3 rfl rfl rfl rfl rfl rfl ?_
 intro w33z H
 refine s_nil <| sQ rfl <| sM (Pz b_s) rfl <| s_val (x_nc (a := ⟨b_s, 0, none⟩) rfl) <| s_val (x_fa (a := Pz b_s) (v := Oz b_s 1) rfl (fa_blk (o := 0) Fd158_1 Sz3)) <| s_val (x_ld (p := Oz b_s 1) (v := I s_used) rfl (ldb_sc Sc3 (H.blk (k := 0) rfl) rfl)) ?_
 obtain ⟨sd34z, hM⟩ := M.e_gd hM
 refine sR s_used 1 (s_used + 1) rfl rfl rfl (by omega) <| s_val (x_nc (a := ⟨b_s, 0, none⟩) rfl) <| s_val (x_fa (a := Pz b_s) (v := Oz b_s 1) rfl (fa_blk (o := 0) Fd158_1 Sz3)) ?_
 refine t_st (k := 0) (b := b_s) (off := 1) (cs := [v_s_bytes, I s_used, I ((((5 * s_mix) + ((s_bytes.getD (Int.toNat (s_used % (s_bytes.length : Int))) 0).toNat : Int)) + 1) % 251)]) (vs := [I (s_used + 1)]) (cs' := [v_s_bytes, I (s_used + 1), I ((((5 * s_mix) + ((s_bytes.getD (Int.toNat (s_used % (s_bytes.length : Int))) 0).toNat : Int)) + 1) % 251)]) (v := I (s_used + 1)) (L' := [cBlk b_s [v_s_bytes, I (s_used + 1), I ((((5 * s_mix) + ((s_bytes.getD (Int.toNat (s_used % (s_bytes.length : Int))) 0).toNat : Int)) + 1) % 251)] 158]) H rfl rfl rfl Sz3 rfl rfl rfl rfl rfl rfl ?_
 intro w35z H
 refine s_nil <| W.seq <| sQ rfl <| sM (I n) rfl <| sC n 256 (decide (256 < n)) rfl rfl rfl <| s_nil ?_
 refine W.cond (decide (256 < n)) rfl (fun c36z => ?_) (fun c36z => ?_)
 ·replace hM := M.e_t hM c36z
  simp only [qz1, qz2, qz3, qz4, qz5, qz6, ne_eq, qz7] at c36z
  refine W.region rfl <| sM (I ((s_bytes.getD (Int.toNat (s_used % (s_bytes.length : Int))) 0).toNat : Int)) rfl ?_
  obtain ⟨sd37z, hM⟩ := M.e_gd hM
  refine sR 256 ((s_bytes.getD (Int.toNat (s_used % (s_bytes.length : Int))) 0).toNat : Int) (256 * ((s_bytes.getD (Int.toNat (s_used % (s_bytes.length : Int))) 0).toNat : Int)) rfl rfl rfl (by omega) <| sM (Pz b_s) rfl <| s_val (x_nc (a := ⟨b_s, 0, none⟩) rfl) <| s_val (x_fa (a := Pz b_s) (v := Oz b_s 2) rfl (fa_blk (o := 0) Fd158_2 Sz3)) <| s_val (x_ld (p := Oz b_s 2) (v := I ((((5 * s_mix) + ((s_bytes.getD (Int.toNat (s_used % (s_bytes.length : Int))) 0).toNat : Int)) + 1) % 251)) rfl (ldb_sc Sc3 (H.blk (k := 0) rfl) rfl)) ?_
  obtain ⟨sd38z, hM⟩ := M.e_gd hM
  refine sR (256 * ((s_bytes.getD (Int.toNat (s_used % (s_bytes.length : Int))) 0).toNat : Int)) ((((5 * s_mix) + ((s_bytes.getD (Int.toNat (s_used % (s_bytes.length : Int))) 0).toNat : Int)) + 1) % 251) ((256 * ((s_bytes.getD (Int.toNat (s_used % (s_bytes.length : Int))) 0).toNat : Int)) + ((((5 * s_mix) + ((s_bytes.getD (Int.toNat (s_used % (s_bytes.length : Int))) 0).toNat : Int)) + 1) % 251)) rfl rfl rfl (by omega) <| sA (I ((256 * ((s_bytes.getD (Int.toNat (s_used % (s_bytes.length : Int))) 0).toNat : Int)) + ((((5 * s_mix) + ((s_bytes.getD (Int.toNat (s_used % (s_bytes.length : Int))) 0).toNat : Int)) + 1) % 251))) rfl <| s_nil <| sQ rfl <| sM (I ((256 * ((s_bytes.getD (Int.toNat (s_used % (s_bytes.length : Int))) 0).toNat : Int)) + ((((5 * s_mix) + ((s_bytes.getD (Int.toNat (s_used % (s_bytes.length : Int))) 0).toNat : Int)) + 1) % 251))) rfl <| sM (I n) rfl ?_
  obtain ⟨sd39z, hM⟩ := M.e_gd hM
  refine s_val (x_rem' (a := (256 * ((s_bytes.getD (Int.toNat (s_used % (s_bytes.length : Int))) 0).toNat : Int)) + ((((5 * s_mix) + ((s_bytes.getD (Int.toNat (s_used % (s_bytes.length : Int))) 0).toNat : Int)) + 1) % 251)) (b := n) rfl rfl (by omega)) <| sA (I (((256 * ((s_bytes.getD (Int.toNat (s_used % (s_bytes.length : Int))) 0).toNat : Int)) + ((((5 * s_mix) + ((s_bytes.getD (Int.toNat (s_used % (s_bytes.length : Int))) 0).toNat : Int)) + 1) % 251)) % n)) rfl <| s_nil ?_
  refine W.ret ?_
  have hr_ := M.e_pure hM
  exact ⟨_, resE_tmp rfl, ⟨(((256 * ((s_bytes.getD (Int.toNat (s_used % (s_bytes.length : Int))) 0).toNat : Int)) + ((((5 * s_mix) + ((s_bytes.getD (Int.toNat (s_used % (s_bytes.length : Int))) 0).toNat : Int)) + 1) % 251)) % n), (s_used + 1), ((((5 * s_mix) + ((s_bytes.getD (Int.toNat (s_used % (s_bytes.length : Int))) 0).toNat : Int)) + 1) % 251), hr_, rfl, H⟩⟩
 replace hM := M.e_f hM c36z
 simp only [qz1, qz2, qz3, qz4, qz5, qz6, ne_eq, qz7] at c36z
 refine W.skip <| sQ rfl <| sM (I ((s_bytes.getD (Int.toNat (s_used % (s_bytes.length : Int))) 0).toNat : Int)) rfl <| sM (I n) rfl ?_
 obtain ⟨sd40z, hM⟩ := M.e_gd hM
 refine s_val (x_rem' (a := ((s_bytes.getD (Int.toNat (s_used % (s_bytes.length : Int))) 0).toNat : Int)) (b := n) rfl rfl (by omega)) <| sA (I (((s_bytes.getD (Int.toNat (s_used % (s_bytes.length : Int))) 0).toNat : Int) % n)) rfl <| s_nil ?_
 refine W.ret ?_
 have hr_ := M.e_pure hM
 exact ⟨_, resE_tmp rfl, ⟨(((s_bytes.getD (Int.toNat (s_used % (s_bytes.length : Int))) 0).toNat : Int) % n), (s_used + 1), ((((5 * s_mix) + ((s_bytes.getD (Int.toNat (s_used % (s_bytes.length : Int))) 0).toNat : Int)) + 1) % 251), hr_, rfl, H⟩⟩

def m_nilometerkit_Mixed_b0 (s_bytes : List UInt8) (n : Int) : (Int × Int × Nat × (List Int)) → M ((Int × Int × Nat × (List Int)) ⊕ ((List Int) × (List Int) × Int × Int)) := fun (s2, s3, i, l) =>
  bif decide ((i : Int) < n) then (
  M.grd (decide ((-9223372036854775808 : Int) ≤ ((i : Int) + 1)) && decide (((i : Int) + 1) ≤ (9223372036854775807 : Int))) <|
  M.bind (m_nilometerkit_Stream_Next s_bytes s2 s3 ((i : Int) + 1)) fun (r2, q1, q2) =>
  M.grd (decide ((l.length + ([(i : Int)]).length) * 8 ≤ 140737488355328)) <|
  M.grd (decide ((0 : Int) ≤ r2) && decide (r2 < ((l ++ ([(i : Int)])).length : Int))) <|
  M.grd (decide ((i : Int) < ((l ++ ([(i : Int)])).length : Int))) <|
  M.grd (decide ((0 : Int) ≤ r2) && decide (r2 < (((l ++ ([(i : Int)])).set i ((l ++ ([(i : Int)])).getD (Int.toNat r2) 0 : Int)).length : Int))) <|
  M.pure (.inl (q1, q2, i + 1, ((l ++ ([(i : Int)])).set i ((l ++ ([(i : Int)])).getD (Int.toNat r2) 0 : Int)).set (Int.toNat r2) ((l ++ ([(i : Int)])).getD i 0 : Int))))
  else (
  M.pure (.inr (l, l, s2, s3)))
def m_nilometerkit_Mixed (s_bytes : List UInt8) (s_used : Int) (s_mix : Int) (n : Int) : M ((List Int) × Int × Int) :=
  M.bind (M.iter (m_nilometerkit_Mixed_b0 s_bytes n) (s_used, s_mix, 0, [])) fun (l2, l3, s4, s5) =>
  M.pure (l3, s4, s5)
def m_nilometerkit_Stream_Within (s_bytes : List UInt8) (s_used : Int) (s_mix : Int) (lo : Int) (hi : Int) : M (Int × Int × Int) :=
  M.grd (decide ((-9223372036854775808 : Int) ≤ (hi - lo)) && decide ((hi - lo) ≤ (9223372036854775807 : Int))) <|
  M.grd (decide ((-9223372036854775808 : Int) ≤ ((hi - lo) + 1)) && decide (((hi - lo) + 1) ≤ (9223372036854775807 : Int))) <|
  M.bind (m_nilometerkit_Stream_Next s_bytes s_used s_mix ((hi - lo) + 1)) fun (r2, q1, q2) =>
  M.grd (decide ((-9223372036854775808 : Int) ≤ (lo + r2)) && decide ((lo + r2) ≤ (9223372036854775807 : Int))) <|
  M.pure ((lo + r2), q1, q2)
theorem nilometerkit_Stream_Within_ok {R : List Chunk} {b_s : Nat} {C_s_bytes : Cells} {v_s_bytes : Value} (s_bytes : List UInt8) (s_used : Int) (s_mix : Int) (lo : Int) (hi : Int) (hC_s_bytes : Reads R C_s_bytes) (hs_s_bytes : Sl C_s_bytes v_s_bytes s_bytes) {r : (Int × Int × Int)} (hM : (m_nilometerkit_Stream_Within s_bytes s_used s_mix lo hi).Ends r) (w : World) (H : St w w [cBlk b_s [v_s_bytes, I s_used, I s_mix] 158] R) : Ret Try.prog 43 #[Pz b_s, I lo, I hi] w fun v w' => ∃ (y0 : Int) (y1 : Int) (y2 : Int), (y0, y1, y2) = r ∧ v = I y0 ∧ St w w' [cBlk b_s [v_s_bytes, I y1, I y2] 158] R := by
 refine ret_of_W Try.func43 rfl rfl rfl ?_
 refine sQ rfl <| sA (I 0) rfl <| s_nil <| sQ rfl <| sM (I lo) rfl <| sM (Pz b_s) rfl <| sM (I hi) rfl <| sM (I lo) rfl ?_
 obtain ⟨sd1z, hM⟩ := M.e_gd hM
 refine sR hi lo (hi - lo) rfl rfl rfl (by omega) ?_
 obtain ⟨sd2z, hM⟩ := M.e_gd hM
 refine sR (hi - lo) 1 ((hi - lo) + 1) rfl rfl rfl (by omega) ?_
 obtain ⟨r4z, hx3z, hM⟩ := M.e_bind hM
 refine s_call cf44 [Pz b_s, I ((hi - lo) + 1)] rfl (nilometerkit_Stream_Next_ok s_bytes s_used s_mix ((hi - lo) + 1) (hC_s_bytes.app _) hs_s_bytes hx3z _ (St.give (T := []) H rfl)) ?_
 rintro vq w5z ⟨r2, q1, q2, hr6z, hvq, H2_⟩
 subst hr6z
 subst vq
 try dsimp only at hM
 replace H : St w w5z [cBlk b_s [v_s_bytes, I q1, I q2] 158] R := H.back H2_ rfl
 clear H2_
 obtain ⟨sd7z, hM⟩ := M.e_gd hM
 refine sR lo r2 (lo + r2) rfl rfl rfl (by omega) <| sA (I (lo + r2)) rfl <| s_nil ?_
 refine W.ret ?_
 have hr_ := M.e_pure hM
 exact ⟨_, resE_tmp rfl, ⟨(lo + r2), q1, q2, hr_, rfl, H⟩⟩

def m_nilometerlaw13_Made_b2 (s_bytes : List UInt8) (s8 : Nat) : (Int × Int × Int × (List Int)) → M ((Int × Int × Int × (List Int)) ⊕ (Int × Int × (List Int) × (List Int))) := fun (s2, s3, k, l) =>
  bif (((decide (0 ≤ k)) && (decide ((l.length : Int) < 5))) && (decide (2 < (s8 : Int)))) then (
  M.bind (m_nilometerkit_Stream_Next s_bytes s2 s3 3) fun (r5, q14, q24) =>
  bif r5 == 0 then (
  M.grd (decide ((l.length + ([(k : Int)]).length) * 8 ≤ 140737488355328)) <|
  M.grd (decide ((-9223372036854775808 : Int) ≤ (k - 1)) && decide ((k - 1) ≤ (9223372036854775807 : Int))) <|
  M.pure (.inl (q14, q24, k - 1, l ++ ([(k : Int)]))))
  else (
  M.grd (decide ((-9223372036854775808 : Int) ≤ (k - 1)) && decide ((k - 1) ≤ (9223372036854775807 : Int))) <|
  M.pure (.inl (q14, q24, k - 1, l))))
  else (
  M.pure (.inr (s2, s3, l, l)))
def m_nilometerlaw13_Made_b3 (s_bytes : List UInt8) (r2 : Int) : (Int × Int × Nat × (List Work)) → M ((Int × Int × Nat × (List Work)) ⊕ ((List Work) × (List Work) × Int × Int)) := fun (s6, s7, s8, l4) =>
  bif decide ((s8 : Int) < r2) then (
  M.bind (m_nilometerkit_Stream_Next s_bytes s6 s7 2000) fun (r3, q12, q22) =>
  M.bind (m_nilometerkit_Stream_Next s_bytes q12 q22 60) fun (r4, q13, q23) =>
  M.grd (decide ((-9223372036854775808 : Int) ≤ ((s8 : Int) - 1)) && decide (((s8 : Int) - 1) ≤ (9223372036854775807 : Int))) <|
  M.bind (M.iter (m_nilometerlaw13_Made_b2 s_bytes s8) (q13, q23, (s8 : Int) - 1, [])) fun (s4, s5, l2, l3) =>
  M.grd (decide ((l4.length + ([(⟨l3, (r3 : Int), (r4 : Int)⟩ : Work)]).length) * 40 ≤ 140737488355328)) <|
  M.grd (decide ((-9223372036854775808 : Int) ≤ ((s8 : Int) + 1)) && decide (((s8 : Int) + 1) ≤ (9223372036854775807 : Int))) <|
  M.pure (.inl (s4, s5, s8 + 1, l4 ++ ([(⟨l3, (r3 : Int), (r4 : Int)⟩ : Work)]))))
  else (
  M.pure (.inr (l4, l4, s6, s7)))
def m_nilometerlaw13_Made (s_bytes : List UInt8) (s_used : Int) (s_mix : Int) (most : Int) : M ((List Work) × Int × Int) :=
  M.bind (m_nilometerkit_Stream_Within s_bytes s_used s_mix 2 most) fun (r2, q1, q2) =>
  M.bind (M.iter (m_nilometerlaw13_Made_b3 s_bytes r2) (q1, q2, 0, [])) fun (l5, l6, s9, s10) =>
  M.pure (l6, s9, s10)
theorem nilometerlaw13_Made_ok {R : List Chunk} {b_s : Nat} {C_s_bytes : Cells} {v_s_bytes : Value} (s_bytes : List UInt8) (s_used : Int) (s_mix : Int) (most : Int) (hC_s_bytes : Reads R C_s_bytes) (hs_s_bytes : Sl C_s_bytes v_s_bytes s_bytes) {r : ((List Work) × Int × Int)} (hM : (m_nilometerlaw13_Made s_bytes s_used s_mix most).Ends r) (w : World) (H : St w w [cBlk b_s [v_s_bytes, I s_used, I s_mix] 158] R) : Ret Try.prog 41 #[Pz b_s, I most] w fun v w' => ∃ (y0 : List Work) (y1 : Int) (y2 : Int) (u0 : Value) (rr1 : List (Raw 2)) (Bs2 : Base), (y0, y1, y2) = r ∧ v = u0 ∧ St w w' [cOwn (α := Raw 2) 60 u0 rr1, cRo Bs2, cBlk b_s [v_s_bytes, I y1, I y2] 158] R ∧ RepR (α := Work) Bs2.cells rr1 y0 := by
 refine ret_of_W Try.func41 rfl rfl rfl ?_
 refine sQ rfl <| sA (.slice none 0 0) rfl <| s_nil <| sQ rfl <| sA (.slice none 0 0) rfl <| s_nil <| W.seq <| sQ rfl <| sM (Pz b_s) rfl ?_
 refine sM (I most) rfl ?_
 obtain ⟨r2z, hx1z, hM⟩ := M.e_bind hM
 refine s_call cf43 [Pz b_s, I 2, I most] rfl (nilometerkit_Stream_Within_ok s_bytes s_used s_mix 2 most (hC_s_bytes.app _) hs_s_bytes hx1z _ (St.give (T := []) H rfl)) ?_
 rintro vq w3z ⟨r2, q1, q2, hr4z, hvq, H2_⟩
 subst hr4z
 subst vq
 try dsimp only at hM
 replace H : St w w3z [cBlk b_s [v_s_bytes, I q1, I q2] 158] R := H.back H2_ rfl
 clear H2_
 refine sM (I 0) rfl <| s_nil <| W.block ?_
 obtain ⟨Bs_12, H⟩ := H.emptyE
 replace H : St w w3z [cOwn (α := Raw 2) 60 (.slice none 0 0) ([]), cRo Bs_12, cBlk b_s [v_s_bytes, I q1, I q2] 158] R := H.nilOwn (α := Raw 2) 60
 have hr5z : RepR (α := Work) (n := 2) Bs_12.cells [] [] := .nil
 obtain ⟨ex6z, hi7z, hk8z⟩ := M.e_bind hM
 obtain ⟨m0_, hi7z⟩ := M.e_iter hi7z
 refine W.loop (fun m σ W => ∃ (s6 : Int) (s7 : Int) (s8 : Nat) (l4 : List Work) (v_l4 : Value) (rw_l4 : List (Raw 2)) (B_l4 : Base) (ρ : Env), σ = upds ρ [(0, Pz b_s), (5, v_l4), (11, I r2), (12, I (s8 : Int))] ∧ M.iterN (m_nilometerlaw13_Made_b3 s_bytes r2) m (s6, s7, s8, l4) = some ex6z ∧ St w W [cOwn (α := Raw 2) 60 v_l4 rw_l4, cRo B_l4, cBlk b_s [v_s_bytes, I s6, I s7] 158] R ∧ RepR (α := Work) B_l4.cells rw_l4 l4) ?_ ?_
 ·exact ⟨_, q1, q2, 0, [], (.slice none 0 0), [], Bs_12, _, upds_of _ _ ⟨rfl, rfl, rfl, rfl, trivial⟩, hi7z, H, hr5z⟩
 rintro m11z σ w9z ⟨s6, s7, s8, l4, v_l4, rw_l4, B_l4, ρ, rfl, hI10z, H, hr_l4⟩
 obtain ⟨m12z, lt13z, x14z, hM, hN15z⟩ := M.e_iterN hI10z
 simp only [m_nilometerlaw13_Made_b3] at hM
 clear hI10z
 refine sQ rfl <| sC (s8 : Int) r2 (decide ((s8 : Int) < r2)) rfl rfl rfl <| s_nil <| W.seq ?_
 refine W.cond (decide ((s8 : Int) < r2)) rfl (fun c16z => ?_) (fun c16z => ?_)
 ·replace hM := M.e_t hM c16z
  simp only [qz1, qz2, qz3, qz4, qz5, qz6, ne_eq, qz7] at c16z
  refine W.skip <| W.seq <| W.block <| sQ rfl <| sM (I (s8 : Int)) rfl <| sA (I (s8 : Int)) rfl <| s_nil <| sQ rfl <| sM (Pz b_s) rfl ?_
  obtain ⟨r18z, hx17z, hM⟩ := M.e_bind hM
  refine s_call cf44 [Pz b_s, I 2000] rfl (nilometerkit_Stream_Next_ok s_bytes s6 s7 2000 (hC_s_bytes.app _) hs_s_bytes hx17z _ (St.give (L := [cBlk b_s [v_s_bytes, I s6, I s7] 158, cOwn (α := Raw 2) 60 v_l4 rw_l4, cRo B_l4]) (A := [cBlk b_s [v_s_bytes, I s6, I s7] 158]) (T := [cOwn (α := Raw 2) 60 v_l4 rw_l4, cRo B_l4]) (H.pick [2, 0, 1] (by decide) rfl) rfl)) ?_
  rintro vq w19z ⟨r3, q12, q22, hr20z, hvq, H2_⟩
  subst hr20z
  subst vq
  try dsimp only at hM
  replace H : St w w19z [cBlk b_s [v_s_bytes, I q12, I q22] 158, cOwn (α := Raw 2) 60 v_l4 rw_l4, cRo B_l4] R := H.pick [2, 0, 1] (by decide) rfl |>.back H2_ rfl
  clear H2_
  refine sM (Pz b_s) rfl ?_
  obtain ⟨r22z, hx21z, hM⟩ := M.e_bind hM
  refine s_call cf44 [Pz b_s, I 60] rfl (nilometerkit_Stream_Next_ok s_bytes q12 q22 60 (hC_s_bytes.app _) hs_s_bytes hx21z _ (St.give (T := [cOwn (α := Raw 2) 60 v_l4 rw_l4, cRo B_l4]) H rfl)) ?_
  rintro vq w23z ⟨r4, q13, q23, hr24z, hvq, H2_⟩
  subst hr24z
  subst vq
  try dsimp only at hM
  replace H : St w w23z [cBlk b_s [v_s_bytes, I q13, I q23] 158, cOwn (α := Raw 2) 60 v_l4 rw_l4, cRo B_l4] R := H.back H2_ rfl
  clear H2_
  refine s_val (x_bld (ps := [(1, I r3), (2, I r4)]) (zs := [.slice none 0 0, I 0, I 0]) (L' := [.slice none 0 0, I r3, I r4]) rfl Try.underlying60 Al60 rfl (Bd60 Try.underlying60) (.cons (cs := [I r3]) rfl rfl rfl rfl rfl <| .cons (cs := [I r4]) rfl rfl rfl rfl rfl <| .nil)) ?_
  refine t_alloc (cs := [.slice none 0 0, I 0, I 0]) H Al60 rfl ?_
  intro b_1 w25z H
  refine t_st (k := 0) (b := b_1) (off := 0) (cs := [.slice none 0 0, I 0, I 0]) (vs := [.slice none 0 0, I r3, I r4]) (cs' := [.slice none 0 0, I r3, I r4]) (v := .agg #[.slice none 0 0, I r3, I r4]) (L' := [cBlk b_1 [.slice none 0 0, I r3, I r4] 60, cBlk b_s [v_s_bytes, I q13, I q23] 158, cOwn (α := Raw 2) 60 v_l4 rw_l4, cRo B_l4]) H rfl rfl rfl Sz60 rfl rfl rfl rfl rfl rfl ?_
  intro w26z H
  refine s_nil <| W.seq <| sQ rfl <| sM (I (s8 : Int)) rfl ?_
  obtain ⟨sd27z, hM⟩ := M.e_gd hM
  refine sR (s8 : Int) 1 ((s8 : Int) - 1) rfl rfl rfl (by omega) <| sA (I ((s8 : Int) - 1)) rfl <| s_nil <| W.block ?_
  replace H : St w w26z [cOwn (α := Int) 3 (.slice none 0 0) ([]), cBlk b_1 [.slice none 0 0, I r3, I r4] 60, cBlk b_s [v_s_bytes, I q13, I q23] 158, cOwn (α := Raw 2) 60 v_l4 rw_l4, cRo B_l4] R := H.nilOwn (α := Int) 3
  obtain ⟨ex28z, hi29z, hk30z⟩ := M.e_bind hM
  obtain ⟨m0_, hi29z⟩ := M.e_iter hi29z
  refine W.loop (fun m σ W => ∃ (s2 : Int) (s3 : Int) (k : Int) (l : List Int) (v_l : Value) (ρ : Env), σ = upds ρ [(0, Pz b_s), (5, v_l4), (6, I (s8 : Int)), (7, Pz b_1), (8, I k), (11, I r2), (12, I (s8 : Int))] ∧ M.iterN (m_nilometerlaw13_Made_b2 s_bytes s8) m (s2, s3, k, l) = some ex28z ∧ St w W [cOwn (α := Int) 3 v_l l, cBlk b_1 [v_l, I r3, I r4] 60, cBlk b_s [v_s_bytes, I s2, I s3] 158, cOwn (α := Raw 2) 60 v_l4 rw_l4, cRo B_l4] R) ?_ ?_
  ·exact ⟨_, q13, q23, (s8 : Int) - 1, [], (.slice none 0 0), _, upds_of _ _ ⟨rfl, rfl, rfl, rfl, rfl, rfl, rfl, trivial⟩, hi29z, H⟩
  rintro m33z σ w31z ⟨s2, s3, k, l, v_l, ρ, rfl, hI32z, H⟩
  obtain ⟨m34z, lt35z, x36z, hM, hN37z⟩ := M.e_iterN hI32z
  simp only [m_nilometerlaw13_Made_b2] at hM
  clear hI32z
  refine W.seq <| sQ rfl <| sM (I k) rfl <| sC k 0 (decide (0 ≤ k)) rfl rfl rfl <| sM (B (decide (0 ≤ k))) rfl <| g_val (decide (0 ≤ k)) (gy_t rfl) (fun hg => x_fa (a := Pz b_1) (v := Pz b_1) rfl (fa_blk (o := 0) Fd60_0 Sz34)) <| g_val (decide (0 ≤ k)) (gy_t rfl) (fun hg => x_ld (p := Pz b_1) (v := v_l) (gd_of (c := decide (0 ≤ k)) hg (Pz b_1)) (ldb_sc Sc34 (H.blk (k := 1) rfl) rfl)) <| g_val (decide (0 ≤ k)) (gy_t rfl) (fun hg => x_lenS T34.und (gd_of (c := decide (0 ≤ k)) hg (v_l)) (ownSl (H.get (k := 0) rfl))) <| g_val (decide (0 ≤ k)) (gy_t rfl) (fun hg => x_cmp (kd := .i64) (a := (l.length : Int)) (b := 5) (r := decide ((l.length : Int) < 5)) (gd_of (c := decide (0 ≤ k)) hg (I (l.length : Int))) rfl rfl) <| s_val (x_pand (b := decide (0 ≤ k)) (r := decide ((l.length : Int) < 5)) rfl (fun hb => gd_of (c := decide (0 ≤ k)) (by simp_all) (B (decide ((l.length : Int) < 5)))) rfl) <| sM (B ((decide (0 ≤ k)) && (decide ((l.length : Int) < 5)))) rfl ?_
  refine g_val ((decide (0 ≤ k)) && (decide ((l.length : Int) < 5))) (gy_t rfl) (fun hg => x_mv (v := I (s8 : Int)) rfl) <| g_val ((decide (0 ≤ k)) && (decide ((l.length : Int) < 5))) (gy_t rfl) (fun hg => x_cmp (kd := .i64) (a := (s8 : Int)) (b := 2) (r := decide (2 < (s8 : Int))) (gd_of (c := ((decide (0 ≤ k)) && (decide ((l.length : Int) < 5)))) hg (I (s8 : Int))) rfl rfl) <| s_val (x_pand (b := ((decide (0 ≤ k)) && (decide ((l.length : Int) < 5)))) (r := decide (2 < (s8 : Int))) rfl (fun hb => gd_of (c := ((decide (0 ≤ k)) && (decide ((l.length : Int) < 5)))) (by simp_all) (B (decide (2 < (s8 : Int))))) rfl) <| s_nil ?_
  refine W.cond (((decide (0 ≤ k)) && (decide ((l.length : Int) < 5))) && (decide (2 < (s8 : Int)))) rfl (fun c39z => ?_) (fun c39z => ?_)
  ·replace hM := M.e_t hM c39z
   refine W.skip <| W.seq <| W.block <| sQ rfl <| sM (Pz b_s) rfl ?_
   obtain ⟨r41z, hx40z, hM⟩ := M.e_bind hM
   refine s_call cf44 [Pz b_s, I 3] rfl (nilometerkit_Stream_Next_ok s_bytes s2 s3 3 (hC_s_bytes.app _) hs_s_bytes hx40z _ (St.give (L := [cBlk b_s [v_s_bytes, I s2, I s3] 158, cOwn (α := Int) 3 v_l l, cBlk b_1 [v_l, I r3, I r4] 60, cOwn (α := Raw 2) 60 v_l4 rw_l4, cRo B_l4]) (A := [cBlk b_s [v_s_bytes, I s2, I s3] 158]) (T := [cOwn (α := Int) 3 v_l l, cBlk b_1 [v_l, I r3, I r4] 60, cOwn (α := Raw 2) 60 v_l4 rw_l4, cRo B_l4]) (H.pick [2, 0, 1, 3, 4] (by decide) rfl) rfl)) ?_
   rintro vq w42z ⟨r5, q14, q24, hr43z, hvq, H2_⟩
   subst hr43z
   subst vq
   try dsimp only at hM
   replace H : St w w42z [cBlk b_s [v_s_bytes, I q14, I q24] 158, cOwn (α := Int) 3 v_l l, cBlk b_1 [v_l, I r3, I r4] 60, cOwn (α := Raw 2) 60 v_l4 rw_l4, cRo B_l4] R := H.pick [2, 0, 1, 3, 4] (by decide) rfl |>.back H2_ rfl
   clear H2_
   refine sC r5 0 (r5 == 0) rfl rfl rfl <| s_nil ?_
   refine W.cond (r5 == 0) rfl (fun c44z => ?_) (fun c44z => ?_)
   ·replace hM := M.e_t hM c44z
    simp only [qz1, qz2, qz3, qz4, qz5, qz6, ne_eq, qz7] at c44z
    refine W.region rfl <| s_val (x_fa (a := Pz b_1) (v := Pz b_1) rfl (fa_blk (o := 0) Fd60_0 Sz34)) <| s_val (x_ld (p := Pz b_1) (v := v_l) rfl (ldb_sc Sc34 (H.blk (k := 2) rfl) rfl)) <| sM (I k) rfl ?_
    refine t_bs (α := Int) T34 [I k] [(k : Int)] H rfl (.cons rfl (Flat.rep_enc _ (k : Int)) <| .nil) rfl rfl rfl ?_
    intro v45z w46z H
    obtain ⟨sd47z, hM⟩ := M.e_gd hM
    refine t_app (α := Int) (k := 2) (l := l) (l2 := [(k : Int)]) (l' := l ++ ([(k : Int)])) (vy := v45z) T34 rfl H rfl rfl rfl (ownSl (H.get (k := 0) rfl)) (ownLe _ (H.get (k := 0) rfl)) (rfl) (by first | omega | (simp only [List.length_nil] at *; omega)) ?_
    intro v48z w49z H
    replace H : St w w49z [cOwn (α := Int) 3 v45z ([(k : Int)]), cBlk b_s [v_s_bytes, I q14, I q24] 158, cOwn (α := Int) 3 v48z (l ++ ([(k : Int)])), cBlk b_1 [v_l, I r3, I r4] 60, cOwn (α := Raw 2) 60 v_l4 rw_l4, cRo B_l4] R := H
    refine s_val (x_fa (a := Pz b_1) (v := Pz b_1) rfl (fa_blk (o := 0) Fd60_0 Sz34)) ?_
    refine t_st (k := 3) (b := b_1) (off := 0) (cs := [v_l, I r3, I r4]) (vs := [v48z]) (cs' := [v48z, I r3, I r4]) (v := v48z) (L' := [cOwn (α := Int) 3 v45z ([(k : Int)]), cBlk b_s [v_s_bytes, I q14, I q24] 158, cOwn (α := Int) 3 v48z (l ++ ([(k : Int)])), cBlk b_1 [v48z, I r3, I r4] 60, cOwn (α := Raw 2) 60 v_l4 rw_l4, cRo B_l4]) H rfl rfl rfl Sz34 (Sl.cells (ownSl (H.get (k := 2) rfl))) rfl rfl (by simp only [List.all_cons, List.all_nil, Bool.true_and, Bool.and_true, Sl.oc (ownSl (H.get (k := 2) rfl))]; try rfl) rfl rfl ?_
    intro w50z H
    refine s_nil <| W.region rfl <| sM (I k) rfl ?_
    obtain ⟨sd51z, hM⟩ := M.e_gd hM
    refine sR k 1 (k - 1) rfl rfl rfl (by omega) <| sA (I (k - 1)) rfl <| s_nil ?_
    exact ⟨m34z, lt35z, q14, q24, k - 1, l ++ ([(k : Int)]), v48z, _, upds_of _ _ ⟨rfl, rfl, rfl, rfl, rfl, rfl, rfl, trivial⟩, M.e_inl hM hN37z, (H.pick [2, 3, 1, 4, 5] (by decide) rfl)⟩
   replace hM := M.e_f hM c44z
   simp only [qz1, qz2, qz3, qz4, qz5, qz6, ne_eq, qz7] at c44z
   refine W.skip <| W.region rfl <| sM (I k) rfl ?_
   obtain ⟨sd52z, hM⟩ := M.e_gd hM
   refine sR k 1 (k - 1) rfl rfl rfl (by omega) <| sA (I (k - 1)) rfl <| s_nil ?_
   exact ⟨m34z, lt35z, q14, q24, k - 1, l, v_l, _, upds_of _ _ ⟨rfl, rfl, rfl, rfl, rfl, rfl, rfl, trivial⟩, M.e_inl hM hN37z, (H.pick [1, 2, 0, 3, 4] (by decide) rfl)⟩
  replace hM := M.e_f hM c39z
  refine W.exit ?_
  have hX53z := M.e_inr hM hN37z
  subst hX53z
  replace hM := hk30z
  try dsimp only at hM
  refine W.region rfl <| sM v_l4 rfl <| s_val (x_ld (p := Pz b_1) (v := .agg #[v_l, I r3, I r4]) rfl (ldb_ag (ds := [v_l, I r3, I r4]) Ag60 Sz60 (H.blk (k := 1) rfl) rfl rfl)) ?_
  obtain ⟨Bs_5, H⟩ := H.emptyE
  obtain ⟨Bs_6, H, hs55z⟩ := H.freezeE (k := 1) rfl
  replace H : St w w31z [cRo Bs_5, cRo Bs_6, cBlk b_1 [v_l, I r3, I r4] 60, cBlk b_s [v_s_bytes, I s2, I s3] 158, cOwn (α := Raw 2) 60 v_l4 rw_l4, cRo B_l4] R := H
  have hq54z := hs55z
  obtain ⟨Bs_7, H, le56z, le57z⟩ := H.joinE (i := 0) (j := 1) rfl rfl
  replace hq54z := hq54z.mono le57z
  obtain ⟨rw58z, hrw_rw58z⟩ : ∃ r : Raw 2, r.cs = [v_l, I r3, I r4] := ⟨Raw.of [v_l, I r3, I r4] rfl (by simp only [List.all_cons, List.all_nil, Bool.true_and, Bool.and_true, Sl.oc hq54z]; try rfl), rfl⟩
  have hr59z : RepR (α := Work) Bs_7.cells [rw58z] [(⟨l, (r3 : Int), (r4 : Int)⟩ : Work)] := .cons (by rw [hrw_rw58z]; exact ⟨_, rfl, hq54z⟩) <| .nil
  refine t_bs (α := Raw 2) T22 [.agg #[v_l, I r3, I r4]] [rw58z] H rfl (.cons (by rw [show (Flat.enc rw58z : List Value) = rw58z.cs from rfl, hrw_rw58z]; rfl) (Flat.rep_enc _ _) <| .nil) rfl rfl rfl ?_
  intro v60z w61z H
  replace H : St w w61z [cOwn (α := Raw 2) 60 v60z ([rw58z]), cRo Bs_7, cRo Bs_5, cRo Bs_6, cBlk b_1 [v_l, I r3, I r4] 60, cBlk b_s [v_s_bytes, I s2, I s3] 158, cOwn (α := Raw 2) 60 v_l4 rw_l4, cRo B_l4] R := H
  obtain ⟨sd62z, hM⟩ := M.e_gd hM
  have hr63z := hr59z
  obtain ⟨Bs_11, H, le64z, le65z⟩ := H.joinE (i := 7) (j := 1) rfl rfl
  replace hr_l4 := hr_l4.mono le64z
  replace hr63z := hr63z.mono le65z
  have hr68z := hr_l4.app hr63z
  refine t_app (α := Raw 2) (k := 7) (l := rw_l4) (l2 := [rw58z]) (l' := rw_l4 ++ ([rw58z])) (vy := v60z) T22 rfl H rfl rfl rfl (ownSl (H.get (k := 1) rfl)) (ownLe _ (H.get (k := 1) rfl)) (rfl) (by have a_ := hr_l4.len; have b_ := hr63z.len; simp only [List.length_nil] at *; first | omega | (rw [a_, b_]; omega)) ?_
  intro v66z w67z H
  replace H : St w w67z [cRo Bs_11, cOwn (α := Raw 2) 60 v60z ([rw58z]), cRo Bs_7, cRo Bs_5, cRo Bs_6, cBlk b_1 [v_l, I r3, I r4] 60, cBlk b_s [v_s_bytes, I s2, I s3] 158, cOwn (α := Raw 2) 60 v66z (rw_l4 ++ ([rw58z])), cRo B_l4] R := H
  refine sA v66z rfl <| s_nil <| W.region rfl ?_
  obtain ⟨sd69z, hM⟩ := M.e_gd hM
  refine sR (s8 : Int) 1 ((s8 : Int) + 1) rfl rfl rfl (by omega) <| sM (I ((s8 : Int) + 1)) rfl <| s_nil ?_
  exact ⟨m12z, lt13z, s2, s3, s8 + 1, l4 ++ ([(⟨l, (r3 : Int), (r4 : Int)⟩ : Work)]), v66z, rw_l4 ++ ([rw58z]), Bs_11, _, upds_of _ _ ⟨rfl, rfl, rfl, rfl, trivial⟩, M.e_inl hM hN15z, (H.pick [7, 0, 6] (by decide) rfl), hr68z⟩
 replace hM := M.e_f hM c16z
 simp only [qz1, qz2, qz3, qz4, qz5, qz6, ne_eq, qz7] at c16z
 refine W.exit ?_
 have hX70z := M.e_inr hM hN15z
 subst hX70z
 replace hM := hk8z
 try dsimp only at hM
 refine sQ rfl <| sM v_l4 rfl <| sA v_l4 rfl <| s_nil ?_
 refine W.ret ?_
 have hr_ := M.e_pure hM
 exact ⟨_, resE_tmp rfl, ⟨l4, s6, s7, v_l4, rw_l4, B_l4, hr_, rfl, H, hr_l4⟩⟩

def m_nilometerlaw13_Noted_b2 (s_bytes : List UInt8) (s7 : Nat) (r2 : Int) : (Int × Int × Nat × (List Note)) → M ((Int × Int × Nat × (List Note)) ⊕ (Int × Int × (List Note) × (List Note))) := fun (s2, s3, s4, l4) =>
  bif decide ((s4 : Int) < r2) then (
  M.bind (m_nilometerkit_Stream_Next s_bytes s2 s3 3) fun (r4, q13, q23) =>
  bif r4 == 0 then (
  M.bind (m_nilometerkit_Stream_Next s_bytes q13 q23 2000) fun (r5, q14, q24) =>
  M.grd (decide ((l4.length + ([(⟨(s7 : Int), (s4 : Int), (r5 : Int)⟩ : Note)]).length) * 24 ≤ 140737488355328)) <|
  M.grd (decide ((-9223372036854775808 : Int) ≤ ((s4 : Int) + 1)) && decide (((s4 : Int) + 1) ≤ (9223372036854775807 : Int))) <|
  M.pure (.inl (q14, q24, s4 + 1, l4 ++ ([(⟨(s7 : Int), (s4 : Int), (r5 : Int)⟩ : Note)]))))
  else (
  M.grd (decide ((-9223372036854775808 : Int) ≤ ((s4 : Int) + 1)) && decide (((s4 : Int) + 1) ≤ (9223372036854775807 : Int))) <|
  M.pure (.inl (q13, q23, s4 + 1, l4))))
  else (
  M.pure (.inr (s2, s3, l4, l4)))
def m_nilometerlaw13_Noted_b3 (s_bytes : List UInt8) (w_ : List Work) : (Nat × Int × Int × (List Note) × (List Note)) → M ((Nat × Int × Int × (List Note) × (List Note)) ⊕ ((List Note) × (List Note) × (List Note) × (List Note) × Int × Int)) := fun (s7, s8, s9, l6, l7) =>
  bif decide ((s7 : Int) < (w_.length : Int)) then (
  M.grd (decide ((s7 : Int) < (w_.length : Int))) <|
  bif decide (0 < (((w_.getD s7 default).of).length : Int)) then (
  M.pure (.inl (s7 + 1, s8, s9, l6, l7)))
  else (
  M.bind (m_nilometerkit_Stream_Next s_bytes s8 s9 9) fun (r2, q1, q2) =>
  M.bind (m_nilometerkit_Stream_Next s_bytes q1 q2 2000) fun (r3, q12, q22) =>
  M.grd (decide ((l6.length + ([(⟨(s7 : Int), (r2 : Int), (r3 : Int)⟩ : Note)]).length) * 24 ≤ 140737488355328)) <|
  M.bind (M.iter (m_nilometerlaw13_Noted_b2 s_bytes s7 r2) (q12, q22, 0, l7)) fun (s5, s6, l2, l5) =>
  M.pure (.inl (s7 + 1, s5, s6, l6 ++ ([(⟨(s7 : Int), (r2 : Int), (r3 : Int)⟩ : Note)]), l5))))
  else (
  M.pure (.inr (l6, l7, l7, l6, s8, s9)))
def m_nilometerlaw13_Noted (s_bytes : List UInt8) (s_used : Int) (s_mix : Int) (w_ : List Work) : M ((List Note) × Int × Int) :=
  M.bind (M.iter (m_nilometerlaw13_Noted_b3 s_bytes w_) (0, s_used, s_mix, [], [])) fun (l8, l9, l10, l11, s10, s11) =>
  M.grd (decide ((l11.length + l10.length) * 24 ≤ 140737488355328)) <|
  M.pure ((l11 ++ l10), s10, s11)
end Go.Proofs.Ytndobgodeicloaa
end
namespace Go.Nm
structure SOk (c u x : Int) : Prop where
  u0 : 0 ≤ u
  u1 : u ≤ c
  x0 : 0 ≤ x
  x1 : x < 251
theorem SOk.mono {c d u x : Int} (h : SOk c u x) (hd : c ≤ d) : SOk d u x := ⟨h.u0, Int.le_trans h.u1 hd, h.x0, h.x1⟩
/-- What a stream gives: a number below n. -/
structure Nx (c n : Int) (y : Int × Int × Int) : Prop where
  ok : SOk c y.2.1 y.2.2
  lt : 1 ≤ n → 0 ≤ y.1 ∧ y.1 < n
  no : n < 1 → y.1 = 0
end Go.Nm
namespace Go.Proofs.Ytndobgodeicloaa
open Go Go.Nm
theorem next_out {b : List UInt8} {c u x n : Int} (h : SOk c u x) (hc : c ≤ 1000000000000) (hn : n ≤ 1000000) : (m_nilometerkit_Stream_Next b u x n).Out (Nx (c + 1) n) := by
  obtain ⟨u0, u1, x0, x1⟩ := h
  unfold m_nilometerkit_Stream_Next
  refine M.o_if (fun hb => ?_) (fun hb => ?_)
  · simp only [Bool.or_eq_true, decide_eq_true_eq, beq_iff_eq] at hb
    refine M.o_pure ⟨⟨u0, by dsimp only; omega, x0, x1⟩, fun h1 => ⟨Int.le_refl _, ?_⟩, fun _ => rfl⟩
    dsimp only
    omega
  · simp only [Bool.or_eq_false_iff, decide_eq_false_iff_not, beq_eq_false_iff_ne, ne_eq] at hb
    have hl : (0 : Int) < (b.length : Int) := by omega
    have m0 := Int.emod_nonneg u (show (b.length : Int) ≠ 0 by omega)
    have m1 := Int.emod_lt_of_pos u hl
    have d0 := Int.ediv_nonneg u0 (show (0 : Int) ≤ (b.length : Int) by omega)
    have d1 : u / (b.length : Int) ≤ u := Int.ediv_le_self _ u0
    have y1 : ((b.getD (Int.toNat (u % (b.length : Int))) 0).toNat : Int) < 256 := by
      have := UInt8.toNat_lt (b.getD (Int.toNat (u % (b.length : Int))) 0)
      omega
    have y0 : (0 : Int) ≤ ((b.getD (Int.toNat (u % (b.length : Int))) 0).toNat : Int) := Int.natCast_nonneg _
    generalize ((b.getD (Int.toNat (u % (b.length : Int))) 0).toNat : Int) = y at *
    generalize u % (b.length : Int) = m at *
    generalize u / (b.length : Int) = d at *
    have hn0 : 0 < n := by omega
    have fin : ∀ z : Int, 0 ≤ z → 0 ≤ z % n ∧ z % n < n := fun z hz => ⟨Int.emod_nonneg _ (by omega), Int.emod_lt_of_pos _ hn0⟩
    have pr : ∀ z w : Int, 0 ≤ z → Nx (c + 1) n (z % n, u + 1, w % 251) := fun z w hz => ⟨⟨by dsimp only; omega, by dsimp only; omega, by dsimp only; omega, by dsimp only; omega⟩, fun _ => fin z hz, fun h => by omega⟩
    refine M.o_grd (by simp only [Bool.and_eq_true, decide_eq_true_eq]; omega) (M.o_grd (by simp only [Bool.and_eq_true, decide_eq_true_eq]; omega) (M.o_grd (by simp only [Bool.and_eq_true, decide_eq_true_eq]; omega) ?_))
    refine M.o_if (fun h1 => ?_) (fun h1 => ?_)
    · refine M.o_grd (by simp only [Bool.and_eq_true, decide_eq_true_eq]; omega) (M.o_grd (by simp only [Bool.and_eq_true, decide_eq_true_eq]; omega) (M.o_grd (by simp only [Bool.and_eq_true, decide_eq_true_eq]; omega) (M.o_grd (by simp only [Bool.and_eq_true, decide_eq_true_eq]; omega) (M.o_grd (by simp only [Bool.and_eq_true, decide_eq_true_eq]; omega) ?_))))
      refine M.o_grd (by simp only [Bool.and_eq_true, decide_eq_true_eq]; omega) (M.o_grd (by simp only [Bool.and_eq_true, decide_eq_true_eq]; omega) (M.o_grd (by simp only [Bool.and_eq_true, decide_eq_true_eq]; omega) (M.o_grd (by simp only [Bool.and_eq_true, decide_eq_true_eq]; omega) ?_)))
      refine M.o_if (fun h2 => ?_) (fun h2 => ?_)
      · refine M.o_grd (by simp only [Bool.and_eq_true, decide_eq_true_eq]; omega) (M.o_grd (by simp only [Bool.and_eq_true, decide_eq_true_eq]; omega) (M.o_grd (by simp only [Bool.and_eq_true, decide_eq_true_eq]; omega) (M.o_pure (pr _ _ (by omega)))))
      · refine M.o_grd (by simp only [Bool.and_eq_true, decide_eq_true_eq]; omega) (M.o_pure (pr _ _ (by omega)))
    · refine M.o_grd (by simp only [Bool.and_eq_true, decide_eq_true_eq]; omega) (M.o_grd (by simp only [Bool.and_eq_true, decide_eq_true_eq]; omega) (M.o_grd (by simp only [Bool.and_eq_true, decide_eq_true_eq]; omega) (M.o_grd (by simp only [Bool.and_eq_true, decide_eq_true_eq]; omega) (M.o_grd (by simp only [Bool.and_eq_true, decide_eq_true_eq]; omega) ?_))))
      refine M.o_if (fun h2 => ?_) (fun h2 => ?_)
      · refine M.o_grd (by simp only [Bool.and_eq_true, decide_eq_true_eq]; omega) (M.o_grd (by simp only [Bool.and_eq_true, decide_eq_true_eq]; omega) (M.o_grd (by simp only [Bool.and_eq_true, decide_eq_true_eq]; omega) (M.o_pure (pr _ _ (by omega)))))
      · refine M.o_grd (by simp only [Bool.and_eq_true, decide_eq_true_eq]; omega) (M.o_pure (pr _ _ (by omega)))
theorem within_out {b : List UInt8} {c u x lo hi : Int} (h : SOk c u x) (hc : c ≤ 1000000000000) (h0 : -1000 ≤ lo) (h1 : lo ≤ hi) (h2 : hi ≤ 10000) : (m_nilometerkit_Stream_Within b u x lo hi).Out (fun y => SOk (c + 1) y.2.1 y.2.2 ∧ lo ≤ y.1 ∧ y.1 ≤ hi) := by
  unfold m_nilometerkit_Stream_Within
  refine M.o_grd (gA2 (by omega) (by omega)) (M.o_grd (gA2 (by omega) (by omega)) (M.o_bind (next_out h hc (by omega)) ?_))
  rintro ⟨r, u', x'⟩ ⟨k, hl, _⟩
  have := hl (by omega)
  dsimp only at this k ⊢
  exact M.o_grd (gA2 (by omega) (by omega)) (M.o_pure ⟨k, by dsimp only; omega, by dsimp only; omega⟩)
/-! ### Works -/
structure OfOk (i : Nat) (l : List Int) : Prop where
  few : l.length ≤ 5
  ahead : ∀ k ∈ l, 0 ≤ k ∧ k < (i : Int)
  once : l.Nodup
  early : i ≤ 2 → l = []
theorem made_of {b : List UInt8} {c u x : Int} (h : SOk c u x) (hc : c ≤ 1000000000) {i : Nat} (hi : i ≤ 1000) :
    (M.iter (m_nilometerlaw13_Made_b2 b i) (u, x, (i : Int) - 1, [])).Out (fun y => SOk (c + i) y.1 y.2.1 ∧ OfOk i y.2.2.2) := by
  refine M.o_iter (fun (m : Nat) (s : Int × Int × Int × List Int) => m = (s.2.2.1 + 1).toNat ∧ -1 ≤ s.2.2.1 ∧ s.2.2.1 < i ∧ SOk (c + (i : Int) - (s.2.2.1 + 1)) s.1 s.2.1 ∧ s.2.2.2.length ≤ 5 ∧ (∀ k ∈ s.2.2.2, s.2.2.1 < k ∧ k < (i : Int)) ∧ s.2.2.2.Nodup ∧ (i ≤ 2 → s.2.2.2 = [])) ?_ _ (u, x, (i : Int) - 1, []) ⟨rfl, by dsimp only; omega, by dsimp only; omega, h.mono (by dsimp only; omega), by simp, by simp, by simp, fun _ => rfl⟩
  rintro m ⟨u, x, k, l⟩ ⟨rfl, k0, k1, hs, h5, hk, hn, he⟩
  dsimp only at k0 k1 hs h5 hk hn he ⊢
  simp only [m_nilometerlaw13_Made_b2]
  refine M.o_if (fun hb => ?_) (fun hb => ?_)
  · simp only [Bool.and_eq_true, decide_eq_true_eq] at hb
    refine M.o_bind (next_out hs (by omega) (by omega)) ?_
    rintro ⟨r, u', x'⟩ ⟨ok, _, _⟩
    dsimp only at ok ⊢
    refine M.o_if (fun hr => ?_) (fun hr => ?_)
    · refine M.o_grdD (by simp only [List.length_cons, List.length_nil]; omega) (M.o_grd (gA2 (by omega) (by omega)) (M.o_pure ⟨k.toNat, by omega, ?_⟩))
      refine ⟨by dsimp only; omega, by dsimp only; omega, by dsimp only; omega, ok.mono (by dsimp only; omega), ?_, ?_, ?_, ?_⟩
      · simp only [List.length_append, List.length_cons, List.length_nil]; omega
      · intro y hy
        simp only [List.mem_append, List.mem_cons, List.not_mem_nil, or_false] at hy
        rcases hy with hy | hy
        · have := hk y hy; dsimp only; omega
        · subst hy; dsimp only; omega
      · dsimp only
        rw [List.nodup_append]
        refine ⟨hn, by simp, fun a ha b hb e => ?_⟩
        simp only [List.mem_cons, List.not_mem_nil, or_false] at hb
        have := hk a ha
        omega
      · intro h2; omega
    · refine M.o_grd (gA2 (by omega) (by omega)) (M.o_pure ⟨k.toNat, by omega, ?_⟩)
      exact ⟨by dsimp only; omega, by dsimp only; omega, by dsimp only; omega, ok.mono (by dsimp only; omega), h5, fun y hy => by have := hk y hy; dsimp only; omega, hn, he⟩
  · refine M.o_pure ⟨hs.mono (by omega), h5, fun y hy => ?_, hn, he⟩
    have := hk y hy
    omega
/-- What works of numbers are like. -/
structure MadeW (most : Int) (ws : List Work) : Prop where
  built : Built ws
  two : 2 ≤ ws.length
  most : (ws.length : Int) ≤ most
  small : ∀ i, i < ws.length → (ws.getD i default).base < 2000 ∧ (ws.getD i default).minutes < 60
  src : ∀ i, i < ws.length → i ≤ 2 → (ws.getD i default).of = []
theorem made_out {b : List UInt8} {c u x most : Int} (h : SOk c u x) (hc : c ≤ 100000000) (h2 : 2 ≤ most) (h30 : most ≤ 30) : (m_nilometerlaw13_Made b u x most).Out (fun y => MadeW most y.1 ∧ SOk (c + 2000) y.2.1 y.2.2) := by
  unfold m_nilometerlaw13_Made
  refine M.o_bind (within_out h (by omega) (by omega) h2 (by omega)) ?_
  rintro ⟨r, u1, x1⟩ ⟨hs, r0, r1⟩
  dsimp only at hs r0 r1 ⊢
  refine M.o_bind (P := fun y => MadeW most y.2.1 ∧ SOk (c + 2000) y.2.2.1 y.2.2.2) ?_ (fun y hy => M.o_pure hy)
  refine M.o_for r.toNat (fun i s => s.2.2.1 = i ∧ SOk (c + 1 + 40 * i) s.1 s.2.1 ∧ s.2.2.2.length = i ∧ (∀ j, j < i → BuiltAt j (s.2.2.2.getD j default) ∧ (s.2.2.2.getD j default).base < 2000 ∧ (s.2.2.2.getD j default).minutes < 60 ∧ (j ≤ 2 → (s.2.2.2.getD j default).of = []))) ?_ ?_ (s := (u1, x1, 0, [])) ⟨rfl, hs.mono (by omega), rfl, fun j hj => by omega⟩
  · rintro i ⟨u, x, j, l⟩ hi ⟨rfl, ok, hl, hj⟩
    dsimp only at hi ok hl hj ⊢
    simp only [m_nilometerlaw13_Made_b3]
    refine M.o_t (by simp; omega) (M.o_bind (next_out ok (by omega) (by omega)) ?_)
    rintro ⟨r3, u3, x3⟩ ⟨ok3, l3, _⟩
    dsimp only at ok3 l3 ⊢
    have l3 := l3 (by omega)
    refine M.o_bind (next_out ok3 (by omega) (by omega)) ?_
    rintro ⟨r4, u4, x4⟩ ⟨ok4, l4, _⟩
    dsimp only at ok4 l4 ⊢
    have l4 := l4 (by omega)
    refine M.o_grd (gA2 (by omega) (by omega)) (M.o_bind (made_of ok4 (by omega) (i := j) (by omega)) ?_)
    rintro ⟨u5, x5, la, lo⟩ ⟨ok5, hof⟩
    dsimp only at ok5 hof ⊢
    refine M.o_grdD (by simp only [List.length_cons, List.length_nil]; omega) (M.o_grd (gA2 (by omega) (by omega)) (M.o_pure ?_))
    refine ⟨rfl, ok5.mono (by omega), by simp [hl], fun k hk => ?_⟩
    dsimp only
    by_cases e : k < l.length
    · rw [getD_app_left _ _ e]
      exact hj k (by omega)
    · obtain rfl : k = l.length := by omega
      rw [getD_app_mid]
      refine ⟨⟨hof.few, ⟨l3.1, by dsimp only; omega⟩, ⟨l4.1, by dsimp only; omega⟩, ?_, hof.once⟩, l3.2, l4.2, ?_⟩
      · rw [hl]; exact hof.ahead
      · rw [hl]; exact hof.early
  · rintro ⟨u, x, j, l⟩ ⟨rfl, ok, hl, hj⟩
    dsimp only at ok hl hj ⊢
    simp only [m_nilometerlaw13_Made_b3]
    refine M.o_f (by simp; omega) (M.o_pure ⟨⟨⟨by dsimp only; omega, fun i hi => (hj i (Nat.lt_of_lt_of_eq hi hl)).1⟩, by dsimp only; omega, by dsimp only; omega, fun i hi => ⟨(hj i (Nat.lt_of_lt_of_eq hi hl)).2.1, (hj i (Nat.lt_of_lt_of_eq hi hl)).2.2.1⟩, fun i hi => (hj i (Nat.lt_of_lt_of_eq hi hl)).2.2.2⟩, ok.mono (by omega)⟩)
end Go.Proofs.Ytndobgodeicloaa
namespace Go.Nm
/-- What a note says, or none. -/
def nv (o : Option Note) : Int := match o with | some n => n.value | none => -1
def nq (o : Option Note) : Int := match o with | some n => n.version | none => -1
end Go.Nm
namespace Go.Nm
end Go.Nm
namespace Go.Nm
variable {ws : List Work} {l e : List Note}
/-! ### Notes -/
def Uniq (l : List Note) : Prop := ∀ a ∈ l, ∀ b ∈ l, a.work = b.work → a.version = b.version → a = b
theorem Uniq.add {l l' : List Note} {n : Note} (h : Uniq l) (hm : ∀ a ∈ l', a ∈ l ∨ a = n) (hn : ∀ a ∈ l, ¬ (a.work = n.work ∧ a.version = n.version)) : Uniq l' := by
  intro a ha b hb h1 h2
  rcases hm a ha with ha | rfl <;> rcases hm b hb with hb | rfl
  · exact h a ha b hb h1 h2
  · exact absurd ⟨h1, h2⟩ (hn a ha)
  · exact absurd ⟨h1.symm, h2.symm⟩ (hn b hb)
  · rfl
structure NG (ws : List Work) (l : List Note) : Prop where
  few : l.length ≤ 200
  src : ∀ n ∈ l, 0 ≤ n.work ∧ n.work < (ws.length : Int) ∧ (ws.getD n.work.toNat default).of = []
  rng : ∀ n ∈ l, 0 ≤ n.version ∧ n.version ≤ 1000000 ∧ 0 ≤ n.value ∧ n.value ≤ 1000002
  uniq : Uniq l
/-! ### Values -/
/-- Each source has a note. -/
def Full (ws : List Work) (l : List Note) : Prop := ∀ i, i < ws.length → (ws.getD i default).of = [] → ∃ n ∈ l, n.work = (i : Int)
/-! ### Lists in order -/
theorem asc_of {l : List Int} (h : l.Pairwise (· < ·)) : AscTo l l.length := by
  intro j h1 h2
  rw [getD_el l (by omega) 0, getD_el l h2 0]
  exact List.pairwise_iff_getElem.1 h (j - 1) j (by omega) h2 (by omega)
theorem listed_of {n : Nat} {l : List Int} (h : ∀ x ∈ l, 0 ≤ x ∧ x < (n : Int)) (ha : l.Pairwise (· < ·)) : listedE n l = 0 := by
  unfold listedE
  rw [if_neg, if_pos (asc_of ha)]
  rw [Bool.not_eq_true, Bool.not_eq_false', List.all_eq_true]
  intro x hx
  have := h x hx
  unfold inB
  simp only [Bool.and_eq_true, decide_eq_true_eq]
  omega
theorem pair_snoc {l : List Int} {x : Int} (h : l.Pairwise (· < ·)) (hx : ∀ y ∈ l, y < x) : (l ++ [x]).Pairwise (· < ·) := by
  rw [List.pairwise_append]
  exact ⟨h, by simp, fun a ha b hb => by rw [List.mem_singleton.1 hb]; exact hx a ha⟩
/-! ### Publications -/
end Go.Nm
namespace Go.Nm
structure NtOk (ws : List Work) (s : Nat) (l6 l7 : List Note) : Prop where
  src : ∀ n ∈ l6 ++ l7, 0 ≤ n.work ∧ n.work < (s : Int) ∧ (ws.getD n.work.toNat default).of = []
  rng : ∀ n ∈ l6 ++ l7, 0 ≤ n.version ∧ n.version ≤ 8 ∧ 0 ≤ n.value ∧ n.value < 2000
  uniq : Uniq (l6 ++ l7)
  all : ∀ i, i < s → (ws.getD i default).of = [] → ∃ n ∈ l6, n.work = (i : Int)
  len6 : l6.length ≤ s
  len7 : l7.length ≤ 8 * s
theorem NtOk.next {ws : List Work} {s : Nat} {l6 l7 : List Note} (h : NtOk ws s l6 l7) (hs : (ws.getD s default).of ≠ []) : NtOk ws (s + 1) l6 l7 :=
  ⟨fun n hn => by have := h.src n hn; exact ⟨this.1, by omega, this.2.2⟩, h.rng, h.uniq, fun i hi he => by
    by_cases e : i = s
    · subst e; exact absurd he hs
    · exact h.all i (by omega) he, by have := h.len6; omega, by have := h.len7; omega⟩
/-- Old notes of one source, up to a version. -/
structure OldOk (ws : List Work) (s v : Nat) (n0 : Note) (l6 l7 l : List Note) : Prop where
  src : ∀ b ∈ l, b ∈ l7 ∨ (b.work = (s : Int) ∧ 0 ≤ b.version ∧ b.version < (v : Int) ∧ 0 ≤ b.value ∧ b.value < 2000)
  uniq : Uniq ((l6 ++ [n0]) ++ l)
  len : l.length ≤ l7.length + v
theorem NtOk.start {ws : List Work} {s : Nat} {l6 l7 : List Note} (h : NtOk ws s l6 l7) {n0 : Note} (hw : n0.work = (s : Int)) : OldOk ws s 0 n0 l6 l7 l7 := by
  refine ⟨fun b hb => .inl hb, ?_, Nat.le_refl _⟩
  refine h.uniq.add (n := n0) (fun a ha => ?_) (fun a ha hh => ?_)
  · simp only [List.mem_append, List.mem_cons, List.not_mem_nil, or_false] at ha ⊢
    rcases ha with (ha | ha) | ha
    · exact .inl (.inl ha)
    · exact .inr ha
    · exact .inl (.inr ha)
  · have := h.src a ha
    rw [hw] at hh
    omega
theorem OldOk.skip {ws : List Work} {s v : Nat} {n0 : Note} {l6 l7 l : List Note} (h : OldOk ws s v n0 l6 l7 l) : OldOk ws s (v + 1) n0 l6 l7 l :=
  ⟨fun b hb => (h.src b hb).imp id fun x => ⟨x.1, x.2.1, by omega, x.2.2.2⟩, h.uniq, by have := h.len; omega⟩
theorem OldOk.put {ws : List Work} {s v : Nat} {n0 : Note} {l6 l7 l : List Note} (hN : NtOk ws s l6 l7) (h : OldOk ws s v n0 l6 l7 l) (hv : (v : Int) < n0.version) {z : Int} (z0 : 0 ≤ z) (z1 : z < 2000) :
    OldOk ws s (v + 1) n0 l6 l7 (l ++ [⟨(s : Int), (v : Int), z⟩]) := by
  refine ⟨fun b hb => ?_, ?_, by have := h.len; simp only [List.length_append, List.length_cons, List.length_nil]; omega⟩
  · rcases List.mem_append.1 hb with hb | hb
    · exact h.skip.src b hb
    · rw [List.mem_singleton] at hb
      subst hb
      exact .inr ⟨rfl, by dsimp only; omega, by dsimp only; omega, z0, z1⟩
  · refine h.uniq.add (n := ⟨(s : Int), (v : Int), z⟩) (fun a ha => ?_) (fun a ha hh => ?_)
    · rw [← List.append_assoc, List.mem_append, List.mem_singleton] at ha
      exact ha
    · dsimp only at hh
      simp only [List.mem_append, List.mem_cons, List.not_mem_nil, or_false] at ha
      rcases ha with (ha | ha) | ha
      · have := hN.src a (List.mem_append_left _ ha); omega
      · subst ha; omega
      · rcases h.src a ha with ha | ha
        · have := hN.src a (List.mem_append_right _ ha); omega
        · omega
theorem OldOk.done {ws : List Work} {s v : Nat} {n0 : Note} {l6 l7 l : List Note} (hN : NtOk ws s l6 l7) (h : OldOk ws s v n0 l6 l7 l) (hw : n0.work = (s : Int)) (hs : (ws.getD s default).of = [])
    (hv : 0 ≤ n0.version ∧ n0.version ≤ 8 ∧ 0 ≤ n0.value ∧ n0.value < 2000) (hv8 : (v : Int) ≤ 8) : NtOk ws (s + 1) (l6 ++ [n0]) l := by
  have hm : ∀ n ∈ (l6 ++ [n0]) ++ l, n ∈ l6 ++ l7 ∨ n = n0 ∨ (n.work = (s : Int) ∧ 0 ≤ n.version ∧ n.version < (v : Int) ∧ 0 ≤ n.value ∧ n.value < 2000) := by
    intro n hn
    simp only [List.mem_append, List.mem_cons, List.not_mem_nil, or_false] at hn ⊢
    rcases hn with (hn | hn) | hn
    · exact .inl (.inl hn)
    · exact .inr (.inl hn)
    · rcases h.src n hn with h1 | h1
      · exact .inl (.inr h1)
      · exact .inr (.inr h1)
  refine ⟨fun n hn => ?_, fun n hn => ?_, h.uniq, fun i hi he => ?_, ?_, ?_⟩
  · rcases hm n hn with h1 | h1 | h1
    · have := hN.src n h1; exact ⟨this.1, by omega, this.2.2⟩
    · subst h1; rw [hw]; exact ⟨by omega, by omega, by rw [Int.toNat_natCast]; exact hs⟩
    · rw [h1.1]; exact ⟨by omega, by omega, by rw [Int.toNat_natCast]; exact hs⟩
  · rcases hm n hn with h1 | h1 | h1
    · exact hN.rng n h1
    · subst h1; exact hv
    · omega
  · by_cases e : i = s
    · exact ⟨n0, by simp, by rw [hw, e]⟩
    · obtain ⟨n, h1, h2⟩ := hN.all i (by omega) he
      exact ⟨n, List.mem_append_left _ h1, h2⟩
  · have := hN.len6; simp only [List.length_append, List.length_cons, List.length_nil]; omega
  · have := hN.len7; have := h.len; omega
/-- The numbers from 0 to n - 1. -/
def upto (n : Nat) : List Int := (List.range n).map fun j : Nat => (j : Int)
end Go.Nm
namespace Go.Proofs.Ytndobgodeicloaa
open Go Go.Nm
variable {ws : List Work}
end Go.Proofs.Ytndobgodeicloaa
section
set_option maxRecDepth 100000
set_option maxHeartbeats 16000000
namespace Go.Proofs.Ytndobgodeicloaa
open Go Go.Nm
def m_nilometerlaw13_Revised_b0 (s_bytes : List UInt8) (w_ : List Work) : (Int × Int × Nat × (List Int)) → M ((Int × Int × Nat × (List Int)) ⊕ (Int × Int × (List Int) × (List Int))) := fun (s2, s3, s4, l) =>
  bif decide ((s4 : Int) < (w_.length : Int)) then (
  M.bind (m_nilometerkit_Stream_Next s_bytes s2 s3 4) fun (r2, q1, q2) =>
  bif r2 == 0 then (
  M.grd (decide ((l.length + ([(s4 : Int)]).length) * 8 ≤ 140737488355328)) <|
  M.pure (.inl (q1, q2, s4 + 1, l ++ ([(s4 : Int)]))))
  else (
  M.pure (.inl (q1, q2, s4 + 1, l))))
  else (
  M.pure (.inr (s2, s3, l, l)))
def m_nilometerlaw13_Revised (s_bytes : List UInt8) (s_used : Int) (s_mix : Int) (w_ : List Work) : M ((List Int) × Int × Int) :=
  M.bind (M.iter (m_nilometerlaw13_Revised_b0 s_bytes w_) (s_used, s_mix, 0, [])) fun (s5, s6, l2, l3) =>
  bif (l3.length : Int) == 0 then (
  M.bind (m_nilometerkit_Stream_Next s_bytes s5 s6 (w_.length : Int)) fun (r3, q12, q22) =>
  M.grd (decide ((l3.length + ([(r3 : Int)]).length) * 8 ≤ 140737488355328)) <|
  M.pure ((l3 ++ ([(r3 : Int)])), q12, q22))
  else (
  M.pure (l3, s5, s6))
theorem nilometerlaw13_Revised_ok {R : List Chunk} {b_s : Nat} {C_s_bytes : Cells} {v_s_bytes : Value} {C_w_ : Cells} {v_w_ : Value} (s_bytes : List UInt8) (s_used : Int) (s_mix : Int) (w_ : List Work) (hC_s_bytes : Reads R C_s_bytes) (hs_s_bytes : Sl C_s_bytes v_s_bytes s_bytes) (hC_w_ : Reads R C_w_) (hs_w_ : Sl C_w_ v_w_ w_) {r : ((List Int) × Int × Int)} (hM : (m_nilometerlaw13_Revised s_bytes s_used s_mix w_).Ends r) (w : World) (H : St w w [cBlk b_s [v_s_bytes, I s_used, I s_mix] 158] R) : Ret Try.prog 47 #[Pz b_s, v_w_] w fun v w' => ∃ (y0 : List Int) (y1 : Int) (y2 : Int) (u0 : Value), (y0, y1, y2) = r ∧ v = u0 ∧ St w w' [cOwn (α := Int) 3 u0 y0, cBlk b_s [v_s_bytes, I y1, I y2] 158] R := by
 refine ret_of_W Try.func47 rfl rfl rfl ?_
 refine sQ rfl <| sA (.slice none 0 0) rfl <| s_nil <| sQ rfl <| sA (.slice none 0 0) rfl <| s_nil <| W.seq <| sQ rfl <| sM v_w_ rfl ?_
 have hl1z := (hs_w_).len_le
 refine s_val (x_lenS T22.und rfl hs_w_) <| sM (I 0) rfl <| s_nil <| W.block ?_
 replace H : St w w [cOwn (α := Int) 3 (.slice none 0 0) ([]), cBlk b_s [v_s_bytes, I s_used, I s_mix] 158] R := H.nilOwn (α := Int) 3
 obtain ⟨ex2z, hi3z, hk4z⟩ := M.e_bind hM
 obtain ⟨m0_, hi3z⟩ := M.e_iter hi3z
 refine W.loop (fun m σ W => ∃ (s2 : Int) (s3 : Int) (s4 : Nat) (l : List Int) (v_l : Value) (ρ : Env), σ = upds ρ [(0, Pz b_s), (1, v_w_), (5, v_l), (8, I (w_.length : Int)), (9, I (s4 : Int))] ∧ M.iterN (m_nilometerlaw13_Revised_b0 s_bytes w_) m (s2, s3, s4, l) = some ex2z ∧ St w W [cOwn (α := Int) 3 v_l l, cBlk b_s [v_s_bytes, I s2, I s3] 158] R) ?_ ?_
 ·exact ⟨_, s_used, s_mix, 0, [], (.slice none 0 0), _, upds_of _ _ ⟨rfl, rfl, rfl, rfl, rfl, trivial⟩, hi3z, H⟩
 rintro m7z σ w5z ⟨s2, s3, s4, l, v_l, ρ, rfl, hI6z, H⟩
 obtain ⟨m8z, lt9z, x10z, hM, hN11z⟩ := M.e_iterN hI6z
 simp only [m_nilometerlaw13_Revised_b0] at hM
 clear hI6z
 refine sQ rfl <| sC (s4 : Int) (w_.length : Int) (decide ((s4 : Int) < (w_.length : Int))) rfl rfl rfl <| s_nil <| W.seq ?_
 refine W.cond (decide ((s4 : Int) < (w_.length : Int))) rfl (fun c12z => ?_) (fun c12z => ?_)
 ·replace hM := M.e_t hM c12z
  simp only [qz1, qz2, qz3, qz4, qz5, qz6, ne_eq, qz7] at c12z
  refine W.skip <| W.seq <| W.block <| sQ rfl <| sM (I (s4 : Int)) rfl <| sA (I (s4 : Int)) rfl <| s_nil <| sQ rfl <| sM (Pz b_s) rfl ?_
  obtain ⟨r14z, hx13z, hM⟩ := M.e_bind hM
  refine s_call cf44 [Pz b_s, I 4] rfl (nilometerkit_Stream_Next_ok s_bytes s2 s3 4 (hC_s_bytes.app _) hs_s_bytes hx13z _ (St.give (L := [cBlk b_s [v_s_bytes, I s2, I s3] 158, cOwn (α := Int) 3 v_l l]) (A := [cBlk b_s [v_s_bytes, I s2, I s3] 158]) (T := [cOwn (α := Int) 3 v_l l]) (H.pick [1, 0] (by decide) rfl) rfl)) ?_
  rintro vq w15z ⟨r2, q1, q2, hr16z, hvq, H2_⟩
  subst hr16z
  subst vq
  try dsimp only at hM
  replace H : St w w15z [cBlk b_s [v_s_bytes, I q1, I q2] 158, cOwn (α := Int) 3 v_l l] R := H.pick [1, 0] (by decide) rfl |>.back H2_ rfl
  clear H2_
  refine sC r2 0 (r2 == 0) rfl rfl rfl <| s_nil ?_
  refine W.cond (r2 == 0) rfl (fun c17z => ?_) (fun c17z => ?_)
  ·replace hM := M.e_t hM c17z
   simp only [qz1, qz2, qz3, qz4, qz5, qz6, ne_eq, qz7] at c17z
   refine W.region rfl <| sM v_l rfl <| sM (I (s4 : Int)) rfl ?_
   refine t_bs (α := Int) T34 [I (s4 : Int)] [(s4 : Int)] H rfl (.cons rfl (Flat.rep_enc _ (s4 : Int)) <| .nil) rfl rfl rfl ?_
   intro v18z w19z H
   obtain ⟨sd20z, hM⟩ := M.e_gd hM
   refine t_app (α := Int) (k := 2) (l := l) (l2 := [(s4 : Int)]) (l' := l ++ ([(s4 : Int)])) (vy := v18z) T34 rfl H rfl rfl rfl (ownSl (H.get (k := 0) rfl)) (ownLe _ (H.get (k := 0) rfl)) (rfl) (by first | omega | (simp only [List.length_nil] at *; omega)) ?_
   intro v21z w22z H
   replace H : St w w22z [cOwn (α := Int) 3 v18z ([(s4 : Int)]), cBlk b_s [v_s_bytes, I q1, I q2] 158, cOwn (α := Int) 3 v21z (l ++ ([(s4 : Int)]))] R := H
   refine sA v21z rfl <| s_nil <| W.region rfl <| sR (s4 : Int) 1 ((s4 : Int) + 1) rfl rfl rfl (by omega) <| sM (I ((s4 : Int) + 1)) rfl <| s_nil ?_
   exact ⟨m8z, lt9z, q1, q2, s4 + 1, l ++ ([(s4 : Int)]), v21z, _, upds_of _ _ ⟨rfl, rfl, rfl, rfl, rfl, trivial⟩, M.e_inl hM hN11z, (H.pick [2, 1] (by decide) rfl)⟩
  replace hM := M.e_f hM c17z
  simp only [qz1, qz2, qz3, qz4, qz5, qz6, ne_eq, qz7] at c17z
  refine W.skip <| W.region rfl <| sR (s4 : Int) 1 ((s4 : Int) + 1) rfl rfl rfl (by omega) <| sM (I ((s4 : Int) + 1)) rfl <| s_nil ?_
  exact ⟨m8z, lt9z, q1, q2, s4 + 1, l, v_l, _, upds_of _ _ ⟨rfl, rfl, rfl, rfl, rfl, trivial⟩, M.e_inl hM hN11z, (H.pick [1, 0] (by decide) rfl)⟩
 replace hM := M.e_f hM c12z
 simp only [qz1, qz2, qz3, qz4, qz5, qz6, ne_eq, qz7] at c12z
 refine W.exit ?_
 have hX23z := M.e_inr hM hN11z
 subst hX23z
 replace hM := hk4z
 try dsimp only at hM
 refine W.seq <| sQ rfl <| sM v_l rfl ?_
 have hl24z := ((ownSl (H.get (k := 0) rfl))).len_le
 refine s_val (x_lenS T34.und rfl (ownSl (H.get (k := 0) rfl))) <| sC (l.length : Int) 0 ((l.length : Int) == 0) rfl rfl rfl <| s_nil ?_
 refine W.cond ((l.length : Int) == 0) rfl (fun c25z => ?_) (fun c25z => ?_)
 ·replace hM := M.e_t hM c25z
  simp only [qz1, qz2, qz3, qz4, qz5, qz6, ne_eq, qz7] at c25z
  refine W.region rfl <| sM v_l rfl <| sM (Pz b_s) rfl <| sM v_w_ rfl ?_
  have hl26z := (hs_w_).len_le
  refine s_val (x_lenS T22.und rfl hs_w_) ?_
  obtain ⟨r28z, hx27z, hM⟩ := M.e_bind hM
  refine s_call cf44 [Pz b_s, I (w_.length : Int)] rfl (nilometerkit_Stream_Next_ok s_bytes s2 s3 (w_.length : Int) (hC_s_bytes.app _) hs_s_bytes hx27z _ (St.give (L := [cBlk b_s [v_s_bytes, I s2, I s3] 158, cOwn (α := Int) 3 v_l l]) (A := [cBlk b_s [v_s_bytes, I s2, I s3] 158]) (T := [cOwn (α := Int) 3 v_l l]) (H.pick [1, 0] (by decide) rfl) rfl)) ?_
  rintro vq w29z ⟨r3, q12, q22, hr30z, hvq, H2_⟩
  subst hr30z
  subst vq
  try dsimp only at hM
  replace H : St w w29z [cBlk b_s [v_s_bytes, I q12, I q22] 158, cOwn (α := Int) 3 v_l l] R := H.pick [1, 0] (by decide) rfl |>.back H2_ rfl
  clear H2_
  refine t_bs (α := Int) T34 [I r3] [(r3 : Int)] H rfl (.cons rfl (Flat.rep_enc _ (r3 : Int)) <| .nil) rfl rfl rfl ?_
  intro v31z w32z H
  obtain ⟨sd33z, hM⟩ := M.e_gd hM
  refine t_app (α := Int) (k := 2) (l := l) (l2 := [(r3 : Int)]) (l' := l ++ ([(r3 : Int)])) (vy := v31z) T34 rfl H rfl rfl rfl (ownSl (H.get (k := 0) rfl)) (ownLe _ (H.get (k := 0) rfl)) (rfl) (by first | omega | (simp only [List.length_nil] at *; omega)) ?_
  intro v34z w35z H
  replace H : St w w35z [cOwn (α := Int) 3 v31z ([(r3 : Int)]), cBlk b_s [v_s_bytes, I q12, I q22] 158, cOwn (α := Int) 3 v34z (l ++ ([(r3 : Int)]))] R := H
  refine sA v34z rfl <| s_nil <| sQ rfl <| sM v34z rfl <| sA v34z rfl <| s_nil ?_
  refine W.ret ?_
  have hr_ := M.e_pure hM
  exact ⟨_, resE_tmp rfl, ⟨(l ++ ([(r3 : Int)])), q12, q22, v34z, hr_, rfl, (H.pick [2, 1] (by decide) rfl)⟩⟩
 replace hM := M.e_f hM c25z
 simp only [qz1, qz2, qz3, qz4, qz5, qz6, ne_eq, qz7] at c25z
 refine W.skip <| sQ rfl <| sM v_l rfl <| sA v_l rfl <| s_nil ?_
 refine W.ret ?_
 have hr_ := M.e_pure hM
 exact ⟨_, resE_tmp rfl, ⟨l, s2, s3, v_l, hr_, rfl, H⟩⟩

def m_notes_Leads_1 (i : Int) (k02 : List Work) : M Bool :=
  M.pure (inB i 0 ((k02.length : Int) - 1))
theorem notes_Leads_1_ok {R : List Chunk} {b_k0 : Nat} {C_k02 : Cells} {v_k02 : Value} (i : Int) (k02 : List Work) (hC_k02 : Reads R C_k02) (hs_k02 : Sl C_k02 v_k02 k02) (h_b_k0 : Has R (cBlk b_k0 [v_k02] 22)) {r : Bool} (hM : (m_notes_Leads_1 i k02).Ends r) (w : World) (H : St w w [] R) : Ret Try.prog 106 #[I i, Pz b_k0] w fun v w' => ∃ (y0 : Bool), y0 = r ∧ v = B y0 ∧ St w w' [] R := by
 refine ret_of_W Try.func106 rfl rfl rfl ?_
 refine sQ rfl <| sA (B false) rfl <| s_nil <| sQ rfl <| sM (I i) rfl <| s_val (x_ld (p := Pz b_k0) (v := v_k02) rfl (ldb_sc Sc22 (h_b_k0.blk H) rfl)) ?_
 have hl1z := (hs_k02).len_le
 refine s_val (x_lenS T22.und rfl hs_k02) <| sR (k02.length : Int) 1 ((k02.length : Int) - 1) rfl rfl rfl (by omega) ?_
 refine s_call cf84 [I i, I 0, I ((k02.length : Int) - 1)] rfl (in_any i 0 ((k02.length : Int) - 1) _) ?_
 rintro _ w2z ⟨rfl, hx_⟩
 replace H : St w w2z [] R := H.ext hx_
 clear hx_
 refine sA (B (inB i 0 ((k02.length : Int) - 1))) rfl <| s_nil ?_
 refine W.ret ?_
 have hr_ := M.e_pure hM
 exact ⟨_, resE_tmp rfl, ⟨(inB i 0 ((k02.length : Int) - 1)), hr_, rfl, H⟩⟩

def m_notes_web_leads_b0 (w__list_works : List Work) (line_ : List Int) : Nat → M (Nat ⊕ (Unit ⊕ Unit)) := fun i =>
  bif decide ((i : Int) < (line_.length : Int)) then (
  M.grd (decide ((i : Int) < (line_.length : Int))) <|
  M.grd (decide ((-9223372036854775808 : Int) ≤ ((i : Int) - 1)) && decide (((i : Int) - 1) ≤ (9223372036854775807 : Int))) <|
  M.grd (decide ((0 : Int) ≤ ((i : Int) - 1)) && decide (((i : Int) - 1) < (line_.length : Int))) <|
  M.bind (m_notes_web_of w__list_works (line_.getD i 0) (line_.getD (Int.toNat ((i : Int) - 1)) 0)) fun r2 =>
  bif !r2 then (
  M.pure (.inr (.inl ())))
  else (
  M.pure (.inl (i + 1))))
  else (
  M.pure (.inr (.inr ())))
def m_notes_web_leads (w__list_works : List Work) (line_ : List Int) : M Bool :=
  M.bind (M.iter (m_notes_web_leads_b0 w__list_works line_) 1) fun x_ => match x_ with
  | (.inl (_ : Unit)) => (
  M.pure false)
  | (.inr (_ : Unit)) => (
  M.pure (decide (0 < (line_.length : Int))))
theorem notes_web_leads_ok {R : List Chunk} {b_w_ : Nat} {C_w__list_works : Cells} {v_w__list_works : Value} {C_line_ : Cells} {v_line_ : Value} (w__list_works : List Work) (line_ : List Int) (hC_w__list_works : Reads R C_w__list_works) (hs_w__list_works : Sl C_w__list_works v_w__list_works w__list_works) (h_b_w_ : Has R (cBlk b_w_ [v_w__list_works] 187)) (hC_line_ : Reads R C_line_) (hs_line_ : Sl C_line_ v_line_ line_) {r : Bool} (hM : (m_notes_web_leads w__list_works line_).Ends r) (w : World) (H : St w w [] R) : Ret Try.prog 107 #[Pz b_w_, v_line_] w fun v w' => ∃ (y0 : Bool), y0 = r ∧ v = B y0 ∧ St w w' [] R := by
 refine ret_of_W Try.func107 rfl rfl rfl ?_
 refine sQ rfl <| sA (B false) rfl <| s_nil <| sQ rfl <| sM (Pz b_w_) rfl <| s_val (x_mf (fs := [Pz b_w_]) (cs := []) rfl rfl) <| sA (.func (.func 149) #[Pz b_w_] #[]) rfl <| s_nil <| W.seq <| W.seq ?_
 refine W.region rfl <| sA (I 1) rfl <| s_nil <| W.block ?_
 obtain ⟨ex1z, hi2z, hk3z⟩ := M.e_bind hM
 obtain ⟨m0_, hi2z⟩ := M.e_iter hi2z
 refine W.loop (fun m σ W => ∃ (i : Nat) (ρ : Env), σ = upds ρ [(1, v_line_), (5, .func (.func 149) #[Pz b_w_] #[]), (6, I (i : Int))] ∧ M.iterN (m_notes_web_leads_b0 w__list_works line_) m i = some ex1z ∧ St w W [] R) ?_ ?_
 ·exact ⟨_, 1, _, upds_of _ _ ⟨rfl, rfl, rfl, trivial⟩, hi2z, H⟩
 rintro m6z σ w4z ⟨i, ρ, rfl, hI5z, H⟩
 obtain ⟨m7z, lt8z, x9z, hM, hN10z⟩ := M.e_iterN hI5z
 simp only [m_notes_web_leads_b0] at hM
 clear hI5z
 refine W.seq <| sQ rfl <| sM (I (i : Int)) rfl <| sM v_line_ rfl ?_
 have hl11z := (hs_line_).len_le
 refine s_val (x_lenS T34.und rfl hs_line_) <| sC (i : Int) (line_.length : Int) (decide ((i : Int) < (line_.length : Int))) rfl rfl rfl <| s_nil ?_
 refine W.cond (decide ((i : Int) < (line_.length : Int))) rfl (fun c12z => ?_) (fun c12z => ?_)
 ·replace hM := M.e_t hM c12z
  simp only [qz1, qz2, qz3, qz4, qz5, qz6, ne_eq, qz7] at c12z
  refine W.skip <| W.seq <| W.block <| W.seq ?_
  refine W.draw (fun W => St w W [] R) [(0, true), (1, true), (2, true), (3, true), (4, true), (5, true), (6, true), (7, true), (8, true), (9, true), (10, false), (11, true)] mixed (by decide +kernel) rfl ?_
  intro w13z hx_
  replace H : St w w13z [] R := H.ext hx_
  clear hx_
  refine ⟨(H.pick [] (by decide) rfl), ?_⟩
  refine d_q rfl (fun w' H => x_mv (v := .func (.func 149) #[Pz b_w_] #[]) rfl) ?_
  refine d_q rfl (fun w' H => x_mv (v := v_line_) rfl) ?_
  refine d_q rfl (fun w' H => x_mv (v := I (i : Int)) rfl) ?_
  obtain ⟨sd14z, hM⟩ := M.e_gd hM
  refine d_q rfl (fun w' H => x_ix (a := v_line_) (b := I (i : Int)) (v := vat v_line_ 1 (Int.toNat (i : Int))) rfl rfl (Sl.ix (α := Int) T34.und T34.size hs_line_ (by omega) (by omega))) ?_
  refine d_q rfl (fun w' H => x_ld (p := vat v_line_ 1 (Int.toNat (i : Int))) (v := I (line_.getD i 0)) rfl (ld_sc Sc3 (At.mono (Int_at hs_line_ (i := (i : Int)) (by omega) (by omega)) (hC_line_.at H)))) ?_
  refine d_q rfl (fun w' H => x_mv (v := v_line_) rfl) ?_
  refine d_q rfl (fun w' H => x_mv (v := I (i : Int)) rfl) ?_
  obtain ⟨sd15z, hM⟩ := M.e_gd hM
  refine d_q rfl (fun w' H => x_ari (a := (i : Int)) (b := 1) (r := (i : Int) - 1) rfl rfl rfl (by omega)) ?_
  obtain ⟨sd16z, hM⟩ := M.e_gd hM
  refine d_q rfl (fun w' H => x_ix (a := v_line_) (b := I ((i : Int) - 1)) (v := vat v_line_ 1 (Int.toNat ((i : Int) - 1))) rfl rfl (Sl.ix (α := Int) T34.und T34.size hs_line_ (by omega) (by omega))) ?_
  refine d_q rfl (fun w' H => x_ld (p := vat v_line_ 1 (Int.toNat ((i : Int) - 1))) (v := I (line_.getD (Int.toNat ((i : Int) - 1)) 0)) rfl (ld_sc Sc3 (At.mono (Int_at hs_line_ (i := (i : Int) - 1) (by omega) (by omega)) (hC_line_.at H)))) ?_
  refine d_l rfl ?_
  obtain ⟨r18z, hx17z, hM⟩ := M.e_bind hM
  refine s_callm (f := 149) (fs := [Pz b_w_]) rfl cf149 [I (line_.getD i 0), I (line_.getD (Int.toNat ((i : Int) - 1)) 0)] rfl (notes_web_of_ok w__list_works (line_.getD i 0) (line_.getD (Int.toNat ((i : Int) - 1)) 0) (hC_w__list_works.app _) hs_w__list_works (h_b_w_.app _) hx17z _ (St.give (T := []) H rfl)) ?_
  rintro vq w19z ⟨r2, hr20z, hvq, H2_⟩
  subst hr20z
  subst vq
  try dsimp only at hM
  replace H : St w w19z [] R := H.back H2_ rfl
  clear H2_
  refine s_nil ⟨(H.pick [] (by decide) rfl), ?_⟩
  refine d_q rfl (fun w' H => x_not (b := r2) rfl) ?_
  refine d_nil ?_
  refine W.cond (!r2) rfl (fun c21z => ?_) (fun c21z => ?_)
  ·replace hM := M.e_t hM c21z
   refine sQ rfl <| sA (B false) rfl <| s_nil ?_
   refine W.ret ?_
   have hX22z := M.e_inr hM hN10z
   subst hX22z
   replace hM := hk3z
   try dsimp only at hM
   have hr_ := M.e_pure hM
   exact ⟨_, resE_tmp rfl, ⟨false, hr_, rfl, H⟩⟩
  replace hM := M.e_f hM c21z
  refine W.skip <| W.region rfl <| sM (I (i : Int)) rfl <| sR (i : Int) 1 ((i : Int) + 1) rfl rfl rfl (by omega) <| sA (I ((i : Int) + 1)) rfl <| s_nil ?_
  exact ⟨m7z, lt8z, i + 1, _, upds_of _ _ ⟨rfl, rfl, rfl, trivial⟩, M.e_inl hM hN10z, H⟩
 replace hM := M.e_f hM c12z
 simp only [qz1, qz2, qz3, qz4, qz5, qz6, ne_eq, qz7] at c12z
 refine W.exit ?_
 have hX23z := M.e_inr hM hN10z
 subst hX23z
 replace hM := hk3z
 try dsimp only at hM
 refine sQ rfl <| sM v_line_ rfl ?_
 have hl24z := (hs_line_).len_le
 refine s_val (x_lenS T34.und rfl hs_line_) <| sC (line_.length : Int) 0 (decide (0 < (line_.length : Int))) rfl rfl rfl <| sA (B (decide (0 < (line_.length : Int)))) rfl <| s_nil ?_
 refine W.ret ?_
 have hr_ := M.e_pure hM
 exact ⟨_, resE_tmp rfl, ⟨(decide (0 < (line_.length : Int))), hr_, rfl, H⟩⟩

def m_notes_Leads (w_ : List Work) (line_ : List Int) : M (Bool × Int) :=
  bif (openedE w_ == 0) then (
  bif (0 : Int) != 0 then (M.fail) else (M.bind (m_notes_every_int (fun xqz => m_notes_Leads_1 xqz w_) line_) fun r2 =>
  bif !r2 then (
  M.pure (false, 2))
  else (
  M.bind (m_notes_web_leads w_ line_) fun r3 =>
  M.pure (r3, 0))))
  else (
  bif (openedE w_) != 0 then (
  M.pure (false, (openedE w_)))
  else (
  M.bind (m_notes_every_int (fun xqz => m_notes_Leads_1 xqz w_) line_) fun r2 =>
  bif !r2 then (
  M.pure (false, 2))
  else (
  M.fail)))
theorem notes_Leads_ok {R : List Chunk} {C_w_ : Cells} {v_w_ : Value} {C_line_ : Cells} {v_line_ : Value} (w_ : List Work) (line_ : List Int) (hC_w_ : Reads R C_w_) (hs_w_ : Sl C_w_ v_w_ w_) (hC_line_ : Reads R C_line_) (hs_line_ : Sl C_line_ v_line_ line_) {r : (Bool × Int)} (hM : (m_notes_Leads w_ line_).Ends r) (w : World) (H : St w w [] R) : Ret Try.prog 51 #[v_w_, v_line_] w fun v w' => ∃ (y0 : Bool) (y1 : Int), (y0, y1) = r ∧ v = .tuple #[B y0, I y1] ∧ St w w' [] R := by
 refine ret_of_W Try.func51 rfl rfl rfl ?_
 refine sQ rfl ?_
 refine t_box (v := v_w_) (cs := [v_w_]) H rfl (Sl.cells hs_w_) ?_
 intro b_1 w1z H
 refine sA (B false) rfl <| sA (I 0) rfl <| s_nil <| sQ rfl <| s_val (x_ld (p := Pz b_1) (v := v_w_) rfl (ldb_sc Sc22 (H.blk (k := 0) rfl) rfl)) ?_
 refine s_call cf81 [v_w_] rfl (opened_any _ (hs_w_.mono (hC_w_.at H))) ?_
 rintro _ w2z (⟨he_, rfl, hx_⟩ | ⟨he_, b_2, u3z, rfl, hn_, hs4z⟩)
 ·replace hM := M.e_f hM (by simpa using he_)
  replace H : St w w2z [cBlk b_1 [v_w_] 22] R := H.ext hx_
  clear hx_
  refine sM (.tuple #[.pointer none, .slice none 0 0, I (openedE w_)]) rfl <| sX [.pointer none, .slice none 0 0, I (openedE w_)] (.pointer none) rfl rfl <| sX [.pointer none, .slice none 0 0, I (openedE w_)] (.slice none 0 0) rfl rfl <| sX [.pointer none, .slice none 0 0, I (openedE w_)] (I (openedE w_)) rfl rfl <| sA (.pointer none) rfl <| sA (.slice none 0 0) rfl <| sA (I (openedE w_)) rfl <| s_nil <| W.seq <| W.block <| sQ rfl ?_
  refine sM (I (openedE w_)) rfl <| sC (openedE w_) 0 ((openedE w_) != 0) rfl rfl rfl <| sA (B ((openedE w_) != 0)) rfl <| s_nil ?_
  refine W.cond ((openedE w_) != 0) rfl (fun c5z => ?_) (fun c5z => ?_)
  ·replace hM := M.e_t hM c5z
   simp only [qz1, qz2, qz3, qz4, qz5, qz6, ne_eq, qz7] at c5z
   refine sQ rfl <| sM (I (openedE w_)) rfl <| sA (B false) rfl <| sA (I (openedE w_)) rfl <| s_nil ?_
   refine W.ret ?_
   have hr_ := M.e_pure hM
   exact ⟨_, resE_tmp2 rfl, ⟨false, (openedE w_), hr_, rfl, (H.pick [] (by decide) rfl)⟩⟩
  replace hM := M.e_f hM c5z
  simp only [qz1, qz2, qz3, qz4, qz5, qz6, ne_eq, qz7] at c5z
  refine sQ rfl <| s_val (x_mf (fs := []) (cs := [Pz b_1]) rfl rfl) <| sM v_line_ rfl ?_
  obtain ⟨r7z, hx6z, hM⟩ := M.e_bind hM
  refine s_call cf87 [.func (.func 106) #[] #[Pz b_1], v_line_] rfl (notes_every_int_ok (fun xqz => m_notes_Leads_1 xqz w_) line_ ⟨106, [Pz b_1], rfl, cf106, fun wqz Lqz Cqz vqz xqz bqz hsqz hCqz hAqz hpqz => by obtain rfl := Arg.int hAqz; exact (notes_Leads_1_ok xqz w_ (Reads.app (hC_w_.app _) _) hs_w_ (Has.app (Has.here (k := 0) rfl) _) hpqz wqz (St.refl hsqz)).mono fun vqz wqz ⟨yqz, hrqz, hvqz, Hqz⟩ => by subst hrqz; exact ⟨hvqz, Hqz⟩⟩ (hC_line_.app _) hs_line_ hx6z _ (St.give (T := [cBlk b_1 [v_w_] 22]) H rfl)) ?_
  rintro vq w8z ⟨r2, hr9z, hvq, H2_⟩
  subst hr9z
  subst vq
  try dsimp only at hM
  replace H : St w w8z [cBlk b_1 [v_w_] 22] R := H.back H2_ rfl
  clear H2_
  refine s_val (x_not (b := r2) rfl) <| sA (B (!r2)) rfl <| s_nil ?_
  refine W.cond (!r2) rfl (fun c10z => ?_) (fun c10z => ?_)
  ·replace hM := M.e_t hM c10z
   refine sQ rfl <| sA (B false) rfl <| sA (I 2) rfl <| s_nil ?_
   refine W.ret ?_
   have hr_ := M.e_pure hM
   exact ⟨_, resE_tmp2 rfl, ⟨false, 2, hr_, rfl, (H.pick [] (by decide) rfl)⟩⟩
  replace hM := M.e_f hM c10z
  refine W.skip <| sQ rfl <| sM (.pointer none) rfl <| sM v_line_ rfl ?_
  exact (M.e_fail hM).elim
 replace hM := M.e_t hM (by simpa using he_)
 obtain ⟨Bs_3, H2_, hs4z, hb_b_2⟩ := H.freshNB hn_ hs4z
 replace H : St w w2z [cRo Bs_3, cBlk b_1 [v_w_] 22] R := H2_
 clear H2_ hn_
 have hl_hs4z := hs4z.len_le
 refine sM (.tuple #[Pz b_2, u3z, I 0]) rfl <| sX [Pz b_2, u3z, I 0] (Pz b_2) rfl rfl <| sX [Pz b_2, u3z, I 0] u3z rfl rfl <| sX [Pz b_2, u3z, I 0] (I 0) rfl rfl <| sA (Pz b_2) rfl <| sA u3z rfl <| sA (I 0) rfl <| s_nil <| W.seq <| W.block <| sQ rfl ?_
 refine sM (I 0) rfl <| sC 0 0 ((0 : Int) != 0) rfl rfl rfl <| sA (B ((0 : Int) != 0)) rfl <| s_nil ?_
 refine W.cond ((0 : Int) != 0) rfl (fun c11z => ?_) (fun c11z => ?_)
 ·skip
  exact absurd c11z (by decide)
 skip
 replace hM := M.e_f hM c11z
 refine sQ rfl <| s_val (x_mf (fs := []) (cs := [Pz b_1]) rfl rfl) <| sM v_line_ rfl ?_
 obtain ⟨r13z, hx12z, hM⟩ := M.e_bind hM
 refine s_call cf87 [.func (.func 106) #[] #[Pz b_1], v_line_] rfl (notes_every_int_ok (fun xqz => m_notes_Leads_1 xqz w_) line_ ⟨106, [Pz b_1], rfl, cf106, fun wqz Lqz Cqz vqz xqz bqz hsqz hCqz hAqz hpqz => by obtain rfl := Arg.int hAqz; exact (notes_Leads_1_ok xqz w_ (Reads.app (hC_w_.app _) _) hs_w_ (Has.app (Has.here (k := 1) rfl) _) hpqz wqz (St.refl hsqz)).mono fun vqz wqz ⟨yqz, hrqz, hvqz, Hqz⟩ => by subst hrqz; exact ⟨hvqz, Hqz⟩⟩ (hC_line_.app _) hs_line_ hx12z _ (St.give (T := [cRo Bs_3, cBlk b_1 [v_w_] 22]) H rfl)) ?_
 rintro vq w14z ⟨r2, hr15z, hvq, H2_⟩
 subst hr15z
 subst vq
 try dsimp only at hM
 replace H : St w w14z [cRo Bs_3, cBlk b_1 [v_w_] 22] R := H.back H2_ rfl
 clear H2_
 refine s_val (x_not (b := r2) rfl) <| sA (B (!r2)) rfl <| s_nil ?_
 refine W.cond (!r2) rfl (fun c16z => ?_) (fun c16z => ?_)
 ·replace hM := M.e_t hM c16z
  refine sQ rfl <| sA (B false) rfl <| sA (I 2) rfl <| s_nil ?_
  refine W.ret ?_
  have hr_ := M.e_pure hM
  exact ⟨_, resE_tmp2 rfl, ⟨false, 2, hr_, rfl, (H.pick [] (by decide) rfl)⟩⟩
 replace hM := M.e_f hM c16z
 refine W.skip <| sQ rfl <| sM (Pz b_2) rfl <| sM v_line_ rfl ?_
 obtain ⟨r18z, hx17z, hM⟩ := M.e_bind hM
 refine s_call cf107 [Pz b_2, v_line_] rfl (notes_web_leads_ok w_ line_ (hC_w_.app _) hs_w_ (Has.ro (k := 0) rfl hb_b_2) (hC_line_.app _) hs_line_ hx17z _ (St.give (T := [cRo Bs_3, cBlk b_1 [v_w_] 22]) H rfl)) ?_
 rintro vq w19z ⟨r3, hr20z, hvq, H2_⟩
 subst hr20z
 subst vq
 try dsimp only at hM
 replace H : St w w19z [cRo Bs_3, cBlk b_1 [v_w_] 22] R := H.back H2_ rfl
 clear H2_
 refine sA (B r3) rfl <| sA (I 0) rfl <| s_nil ?_
 refine W.ret ?_
 have hr_ := M.e_pure hM
 exact ⟨_, resE_tmp2 rfl, ⟨r3, 0, hr_, rfl, (H.pick [] (by decide) rfl)⟩⟩

end Go.Proofs.Ytndobgodeicloaa
end
namespace Go.Nm
theorem M.i_scanF {b : Nat → M (Nat ⊕ (Unit ⊕ Unit))} (n i0 : Nat) (bad : Nat → Bool) (h0 : ∀ j < i0, bad j = false) (hi0 : i0 ≤ n) (hb : ∀ i, i0 ≤ i → i < n → (∀ j < i, bad j = false) → (b i).Ends (if bad i then .inr (.inl ()) else .inl (i + 1))) (he : (∀ j < n, bad j = false) → (b n).Ends (.inr (.inr ()))) :
    (M.iter b i0).Ends (if (List.range n).any bad then .inl () else .inr ()) := by
  have key : ∀ k i, n = i + k → i0 ≤ i → (∀ j < i, bad j = false) → (M.iter b i).Ends (if (List.range n).any bad then .inl () else .inr ()) := by
    intro k
    induction k with
    | zero =>
      intro i hi _ hj
      have hn : n = i := by omega
      rw [hn] at he ⊢
      have : (List.range i).any bad = false := List.any_eq_false.2 fun j hj' => by simp [hj j (List.mem_range.1 hj')]
      rw [this]
      exact M.i_stop (he hj)
    | succ k ih =>
      intro i hi hii hj
      have h1 := hb i hii (by omega) hj
      cases hc : bad i with
      | true =>
        rw [hc] at h1
        have : (List.range n).any bad = true := List.any_eq_true.2 ⟨i, List.mem_range.2 (by omega), hc⟩
        rw [this]
        exact M.i_stop h1
      | false =>
        rw [hc] at h1
        refine M.i_next h1 (ih (i + 1) (by omega) (by omega) fun j hj' => ?_)
        by_cases e : j = i
        · rw [e]; exact hc
        · exact hj j (by omega)
  exact key (n - i0) i0 (by omega) (Nat.le_refl _) h0
theorem lineB_at1 {ws : List Work} (l : List Int) : lineB ws l = !((List.range l.length).any fun i => decide (1 ≤ i) && !((ws.getD (l.getD i 0).toNat default).of.contains (l.getD (i - 1) 0))) := by
  rw [lineB_at]
  cases hl : l.length with
  | zero => rfl
  | succ n =>
    rw [List.range_succ_eq_map, List.any_cons, List.any_map, Nat.add_sub_cancel]
    rfl
end Go.Nm
namespace Go.Proofs.Ytndobgodeicloaa
open Go Go.Nm
variable {ws : List Work}
structure RevOk (ws : List Work) (rv : List Int) : Prop where
  some : rv ≠ []
  asc : rv.Pairwise (· < ·)
  lt : ∀ x ∈ rv, 0 ≤ x ∧ x < (ws.length : Int)
  few : rv.length ≤ ws.length
theorem RevOk.asked {rv : List Int} (h : RevOk ws rv) (hO : openedE ws = 0) : askedE ws rv = 0 := by rw [asked_list hO]; exact listed_of h.lt h.asc
theorem revised_out {b : List UInt8} {c u x : Int} (h : SOk c u x) (hc : c ≤ 100000000) (hw : ws.length ≤ 30) (h1 : 1 ≤ ws.length) :
    (m_nilometerlaw13_Revised b u x ws).Out (fun y => RevOk ws y.1 ∧ SOk (c + 100) y.2.1 y.2.2) := by
  unfold m_nilometerlaw13_Revised
  refine M.o_bind (P := fun y => SOk (c + 30) y.1 y.2.1 ∧ y.2.2.2.Pairwise (· < ·) ∧ (∀ x ∈ y.2.2.2, 0 ≤ x ∧ x < (ws.length : Int)) ∧ y.2.2.2.length ≤ ws.length) ?_ ?_
  · refine M.o_for ws.length (fun i st => st.2.2.1 = i ∧ SOk (c + (i : Int)) st.1 st.2.1 ∧ st.2.2.2.Pairwise (· < ·) ∧ (∀ x ∈ st.2.2.2, 0 ≤ x ∧ x < (i : Int)) ∧ st.2.2.2.length ≤ i) ?_ ?_ (s := (u, x, 0, [])) ⟨rfl, h.mono (by omega), by simp, by simp, by simp⟩
    · rintro i ⟨u, x, j, l⟩ hi ⟨rfl, ok, hp, hl, hle⟩
      dsimp only at hi ok hp hl hle ⊢
      simp only [m_nilometerlaw13_Revised_b0]
      refine M.o_t (by simpa using hi) (M.o_bind (next_out ok (by omega) (by omega)) ?_)
      rintro ⟨r, u', x'⟩ ⟨ok', _, _⟩
      dsimp only at ok' ⊢
      refine M.o_if (fun hb => ?_) (fun hb => ?_)
      · refine M.o_grdD (by simp only [List.length_cons, List.length_nil]; omega) (M.o_pure ⟨rfl, ok'.mono (by omega), pair_snoc hp (fun y hy => (hl y hy).2), fun y hy => ?_, by simp only [List.length_append, List.length_cons, List.length_nil]; omega⟩)
        rcases List.mem_append.1 hy with hy | hy
        · have := hl y hy; omega
        · rw [List.mem_singleton.1 hy]; omega
      · exact M.o_pure ⟨rfl, ok'.mono (by omega), hp, fun y hy => by have := hl y hy; omega, by dsimp only; omega⟩
    · rintro ⟨u, x, j, l⟩ ⟨rfl, ok, hp, hl, hle⟩
      dsimp only at ok hp hl hle ⊢
      simp only [m_nilometerlaw13_Revised_b0]
      exact M.o_f (by simp) (M.o_pure ⟨ok.mono (by omega), hp, hl, hle⟩)
  · rintro ⟨u, x, la, l⟩ ⟨ok, hp, hl, hle⟩
    dsimp only at ok hp hl hle ⊢
    refine M.o_if (fun hb => ?_) (fun hb => ?_)
    · have e : l = [] := List.eq_nil_of_length_eq_zero (by have := eq_of_beq hb; omega)
      subst e
      refine M.o_bind (next_out ok (by omega) (by omega)) ?_
      rintro ⟨r, u', x'⟩ ⟨ok', lt, _⟩
      dsimp only at ok' lt ⊢
      have lt := lt (by omega)
      refine M.o_grdD (by simp only [List.length_cons, List.length_nil]; omega) (M.o_pure ⟨⟨by simp, by simp, fun y hy => ?_, by simp; omega⟩, ok'.mono (by omega)⟩)
      simp only [List.nil_append, List.mem_cons, List.not_mem_nil, or_false] at hy
      rw [hy]
      exact lt
    · exact M.o_pure ⟨⟨fun e => by dsimp only at e; rw [e] at hb; simp at hb, hp, hl, hle⟩, ok.mono (by omega)⟩
theorem webOf_ends {i : Int} (h0 : 0 ≤ i) (h1 : i < ws.length) (x : Int) : (m_notes_web_of ws i x).Ends ((ws.getD i.toNat default).of.contains x) := by
  unfold m_notes_web_of
  exact M.i_grd (gA2 h0 h1) M.i_pure
theorem everyInt_ends {s : List Int} {f : Int → M Bool} {p : Int → Bool} (hf : ∀ x ∈ s, (f x).Ends (p x)) : (m_notes_every_int f s).Ends (s.all p) := by
  have key : ∃ r, (m_slices_IndexFunc_int s (fun x => m_notes_every_int__1 x f)).Ends r ∧ decide (0 ≤ r) = !(s.all p) := by
    have h := M.i_loopQ (body := m_slices_IndexFunc_int_b0 s (fun x => m_notes_every_int__1 x f)) (fun r => match r with | .inl k => 0 ≤ k ∧ s.all p = false | .inr _ => s.all p = true)
      (fun m i => m = s.length - i ∧ i ≤ s.length ∧ (s.take i).all p = true) (by
        rintro m i ⟨rfl, hi, ha⟩
        simp only [m_slices_IndexFunc_int_b0]
        by_cases e : i < s.length
        · have hp := M.i_bind (hf _ (getD_memN s (by omega : (i : Int) < _) 0)) (k := fun r2 => M.pure (!r2)) M.i_pure
          have hp : (m_notes_every_int__1 (s.getD i 0) f).Ends _ := hp
          cases hc : p (s.getD i 0) with
          | false =>
            rw [hc] at hp
            exact .inr ⟨.inl (i : Int), M.i_t (by simpa using e) (M.grdD (by omega) (M.i_bind hp M.i_pure)), by omega, List.all_eq_false.2 ⟨_, getD_memN s (by omega : (i : Int) < _) 0, by rw [hc]; decide⟩⟩
          | true =>
            rw [hc] at hp
            exact .inl ⟨i + 1, s.length - (i + 1), by omega, M.i_t (by simpa using e) (M.grdD (by omega) (M.i_bind hp M.i_pure)), rfl, e, by rw [all_take_succ p s e 0, ha, hc]; rfl⟩
        · obtain rfl : i = s.length := by omega
          rw [List.take_length] at ha
          exact .inr ⟨.inr (), M.i_f (by simp) M.i_pure, ha⟩) _ 0 ⟨rfl, Nat.zero_le _, by simp⟩
    obtain ⟨r, h1, h2⟩ := h
    cases r with
    | inl k => exact ⟨k, M.i_bind h1 M.i_pure, by rw [h2.2]; simpa using h2.1⟩
    | inr u => exact ⟨-1, M.i_bind h1 M.i_pure, by dsimp only at h2; rw [h2]; rfl⟩
  obtain ⟨r, h1, h2⟩ := key
  rw [show s.all p = !(decide (0 ≤ r)) from by rw [h2, Bool.not_not]]
  exact M.i_bind (M.i_bind h1 M.i_pure) M.i_pure
theorem notesLeads_ends {l : List Int} (hO : openedE ws = 0) (hr : ∀ x ∈ l, 0 ≤ x ∧ x < (ws.length : Int)) (hl : l.length ≤ 1000000) : (m_notes_Leads ws l).Ends (lineB ws l && decide (0 < (l.length : Int)), 0) := by
  unfold m_notes_Leads
  have he := everyInt_ends (s := l) (f := fun x => m_notes_Leads_1 x ws) (p := fun x => inB x 0 ((ws.length : Int) - 1)) (fun x _ => M.i_pure)
  have ha : (l.all fun x => inB x 0 ((ws.length : Int) - 1)) = true := by
    rw [List.all_eq_true]
    intro x hx
    have := hr x hx
    unfold inB
    simp only [Bool.and_eq_true, decide_eq_true_eq]
    omega
  rw [ha] at he
  refine M.i_t (by simp [hO]) (M.i_f rfl (M.i_bind he (M.i_f rfl (M.i_bind (a := lineB ws l && decide (0 < (l.length : Int))) ?_ M.i_pure))))
  unfold m_notes_web_leads
  by_cases hz : l = []
  · subst hz
    have h0 : (M.iter (m_notes_web_leads_b0 ws []) 1).Ends (.inr ()) := M.i_stop (by simp only [m_notes_web_leads_b0]; exact M.i_f (by simp) M.i_pure)
    exact M.i_bind h0 M.i_pure
  · have hl1 : 1 ≤ l.length := List.length_pos_iff.2 hz
    have s1 := M.i_scanF (b := m_notes_web_leads_b0 ws l) l.length 1 (fun i => decide (1 ≤ i) && !((ws.getD (l.getD i 0).toNat default).of.contains (l.getD (i - 1) 0))) (fun j hj => by rw [decide_eq_false (by omega)]; rfl) hl1 (fun i h1 hi _ => ?_) (fun _ => ?_)
    · refine M.i_bind s1 ?_
      rw [lineB_at1]
      cases (List.range l.length).any fun i => decide (1 ≤ i) && !((ws.getD (l.getD i 0).toNat default).of.contains (l.getD (i - 1) 0)) <;> exact M.i_pure
    · have hm := hr _ (getD_memN l (by omega : (i : Int) < _) 0)
      simp only [m_notes_web_leads_b0, show ((i : Int) - 1).toNat = i - 1 from by omega]
      refine M.i_t (by simpa using hi) (M.grdD (by omega) (M.i_grd (gA2 (by omega) (by omega)) (M.i_grd (gA2 (by omega) (by omega)) (M.i_bind (webOf_ends hm.1 hm.2 _) ?_))))
      rw [decide_eq_true h1, Bool.true_and]
      cases (ws.getD (l.getD i 0).toNat default).of.contains (l.getD (i - 1) 0) <;> exact M.i_pure
    · simp only [m_notes_web_leads_b0]
      exact M.i_f (by simp) M.i_pure
end Go.Proofs.Ytndobgodeicloaa
section
set_option maxRecDepth 100000
set_option maxHeartbeats 16000000
namespace Go.Proofs.Ytndobgodeicloaa
open Go Go.Nm
def m_nilometerkit_Copy_notes_Work (l : List Work) : M (List Work) :=
  M.grd (decide ((([] : List Work).length + l.length) * 40 ≤ 140737488355328)) <|
  M.pure l
theorem nilometerkit_Copy_notes_Work_ok {R : List Chunk} {C_l : Cells} {v_l : Value} (l : List Work) (hC_l : Reads R C_l) (hs_l : Sl C_l v_l l) {r : (List Work)} (hM : (m_nilometerkit_Copy_notes_Work l).Ends r) (w : World) (H : St w w [] R) : Ret Try.prog 80 #[v_l] w fun v w' => ∃ (y0 : List Work) (u0 : Value) (rr1 : List (Raw 2)) (Bs2 : Base), y0 = r ∧ v = u0 ∧ St w w' [cOwn (α := Raw 2) 60 u0 rr1, cRo Bs2] R ∧ RepR (α := Work) (Cells.sup C_l Bs2.cells) rr1 y0 := by
 refine ret_of_W Try.func80 rfl rfl rfl ?_
 refine sQ rfl <| sA (.slice none 0 0) rfl <| s_nil <| sQ rfl <| sA (.slice none 0 0) rfl <| s_nil <| sQ rfl <| sM (.slice none 0 0) rfl <| sM v_l rfl ?_
 obtain ⟨Bs_1, H⟩ := H.emptyE
 replace H : St w w [cOwn (α := Raw 2) 60 (.slice none 0 0) ([]), cRo Bs_1] R := H.nilOwn (α := Raw 2) 60
 have hr1z : RepR (α := Work) (n := 2) Bs_1.cells [] [] := .nil
 obtain ⟨sd2z, hM⟩ := M.e_gd hM
 obtain ⟨rw4z, hs5z, hr3z⟩ := rawOf (n := 2) rfl hs_l
 replace hr1z := hr1z.mono (Cells.sup_r (hC_l.at H) (roLe _ (H.get (k := 1) rfl)))
 replace hr3z := hr3z.mono (Cells.sup_l _ Bs_1.cells)
 have hr8z := hr1z.app hr3z
 simp only [List.nil_append] at hr8z
 refine t_app (α := Raw 2) (k := 0) (l := []) (l2 := rw4z) (l' := rw4z) (vy := v_l) T22 rfl H rfl rfl rfl hs5z (hC_l.at H) (List.nil_append _) (by have a_ := hr1z.len; have b_ := hr3z.len; simp only [List.length_nil] at *; first | omega | (rw [a_, b_]; omega)) ?_
 intro v6z w7z H
 replace H : St w w7z [cOwn (α := Raw 2) 60 v6z rw4z, cRo Bs_1] R := H
 refine sA v6z rfl <| s_nil ?_
 refine W.ret ?_
 have hr_ := M.e_pure hM
 exact ⟨_, resE_tmp rfl, ⟨l, v6z, rw4z, Bs_1, hr_, rfl, H, hr8z⟩⟩

def m_nilometerlaw13_CopyWorks_b0 (w_ : List Work) (r2 : List Work) : ((List Work) × Nat) → M (((List Work) × Nat) ⊕ ((List Work) × (List Work))) := fun (l, s) =>
  bif decide ((s : Int) < (r2.length : Int)) then (
  M.grd (decide ((s : Int) < (w_.length : Int))) <|
  M.grd (decide (((w_.getD s default).of).length ≤ 1000000)) <|
  M.grd (decide ((s : Int) < (l.length : Int))) <|
  M.pure (.inl (l.set s ({ (l.getD s default) with of := ((w_.getD s default).of) }), s + 1)))
  else (
  M.pure (.inr (l, l)))
def m_nilometerlaw13_CopyWorks (w_ : List Work) : M (List Work) :=
  M.bind (m_nilometerkit_Copy_notes_Work w_) fun r2 =>
  M.bind (M.iter (m_nilometerlaw13_CopyWorks_b0 w_ r2) (r2, 0)) fun (l2, l3) =>
  M.pure l3
theorem nilometerlaw13_CopyWorks_ok {R : List Chunk} {C_w_ : Cells} {v_w_ : Value} (w_ : List Work) (hC_w_ : Reads R C_w_) (hs_w_ : Sl C_w_ v_w_ w_) {r : (List Work)} (hM : (m_nilometerlaw13_CopyWorks w_).Ends r) (w : World) (H : St w w [] R) : Ret Try.prog 18 #[v_w_] w fun v w' => ∃ (y0 : List Work) (u0 : Value) (rr1 : List (Raw 2)) (Bs2 : Base), y0 = r ∧ v = u0 ∧ St w w' [cOwn (α := Raw 2) 60 u0 rr1, cRo Bs2] R ∧ RepR (α := Work) (Cells.sup C_w_ Bs2.cells) rr1 y0 := by
 refine ret_of_W Try.func18 rfl rfl rfl ?_
 refine sQ rfl <| sA (.slice none 0 0) rfl <| s_nil <| sQ rfl <| sM v_w_ rfl ?_
 obtain ⟨r2z, hx1z, hM⟩ := M.e_bind hM
 refine s_call cf80 [v_w_] rfl (nilometerkit_Copy_notes_Work_ok w_ (hC_w_.app _) hs_w_ hx1z _ (St.give (T := []) H rfl)) ?_
 rintro vq w3z ⟨r2, u0_1, rr1_2, Bs2_3, hr4z, hvq, H2_, hf5z⟩
 subst hr4z
 subst vq
 try dsimp only at hM
 replace H : St w w3z [cOwn (α := Raw 2) 60 u0_1 rr1_2, cRo Bs2_3] R := H.back H2_ rfl
 clear H2_
 refine sA u0_1 rfl <| s_nil <| W.seq <| sQ rfl <| sM u0_1 rfl ?_
 have hl6z := ((rowSl rfl (H.get (k := 0) rfl) (Cells.sup_le (hC_w_.at H) (roLe _ (H.get (k := 1) rfl))) hf5z)).len_le
 refine s_val (x_lenS T22.und rfl (rowSl rfl (H.get (k := 0) rfl) (Cells.sup_le (hC_w_.at H) (roLe _ (H.get (k := 1) rfl))) hf5z)) <| sM (I 0) rfl <| s_nil <| W.block ?_
 obtain ⟨ex7z, hi8z, hk9z⟩ := M.e_bind hM
 obtain ⟨m0_, hi8z⟩ := M.e_iter hi8z
 refine W.loop (fun m σ W => ∃ (l : List Work) (s : Nat) (v_l : Value) (rw_l : List (Raw 2)) (B_l : Base) (ρ : Env), σ = upds ρ [(0, v_w_), (3, v_l), (8, I (r2.length : Int)), (9, I (s : Int))] ∧ M.iterN (m_nilometerlaw13_CopyWorks_b0 w_ r2) m (l, s) = some ex7z ∧ St w W [cOwn (α := Raw 2) 60 v_l rw_l, cRo B_l] R ∧ RepR (α := Work) (Cells.sup C_w_ B_l.cells) rw_l l) ?_ ?_
 ·exact ⟨_, r2, 0, u0_1, rr1_2, Bs2_3, _, upds_of _ _ ⟨rfl, rfl, rfl, rfl, trivial⟩, hi8z, H, hf5z⟩
 rintro m12z σ w10z ⟨l, s, v_l, rw_l, B_l, ρ, rfl, hI11z, H, hr_l⟩
 obtain ⟨m13z, lt14z, x15z, hM, hN16z⟩ := M.e_iterN hI11z
 simp only [m_nilometerlaw13_CopyWorks_b0] at hM
 clear hI11z
 refine sQ rfl <| sC (s : Int) (r2.length : Int) (decide ((s : Int) < (r2.length : Int))) rfl rfl rfl <| s_nil <| W.seq ?_
 refine W.cond (decide ((s : Int) < (r2.length : Int))) rfl (fun c17z => ?_) (fun c17z => ?_)
 ·replace hM := M.e_t hM c17z
  simp only [qz1, qz2, qz3, qz4, qz5, qz6, ne_eq, qz7] at c17z
  refine W.skip <| W.seq <| W.block <| sQ rfl <| sM (I (s : Int)) rfl <| sA (I (s : Int)) rfl <| s_nil <| W.region rfl <| sM v_l rfl <| sM (I (s : Int)) rfl <| sM v_w_ rfl ?_
  refine sM (I (s : Int)) rfl ?_
  obtain ⟨sd18z, hM⟩ := M.e_gd hM
  refine s_val (x_ix (a := v_w_) (b := I (s : Int)) (v := vat v_w_ 3 (Int.toNat (s : Int))) rfl rfl (Sl.ix (α := Work) T22.und T22.size hs_w_ (by omega) (by omega))) <| s_val (x_fa (a := vat v_w_ 3 (Int.toNat (s : Int))) (v := fat (vat v_w_ 3 (Int.toNat (s : Int))) 0) rfl (fa_pl Fd60_0 Sz34 (Sl.pl (i := (s : Int)) hs_w_ (by omega) (by omega)))) ?_
  obtain ⟨u19z, ha_u19z, hs20z⟩ := Work_at0 hs_w_ (i := (s : Int)) (by omega) (by omega)
  replace hs20z : Sl _ u19z (w_.getD s default).of := hs20z
  have hl_hs20z := hs20z.len_le
  refine s_val (x_ld (p := fat (vat v_w_ 3 (Int.toNat (s : Int))) 0) (v := u19z) rfl (ld_sc Sc34 (At.mono (ha_u19z) (hC_w_.at H)))) ?_
  obtain ⟨sd21z, hM⟩ := M.e_gd hM
  refine s_call cf31 [u19z] rfl (copy_int _ (hs20z.mono (hC_w_.at H)) (by omega)) ?_
  rintro v23z w22z ⟨ho_, hx_⟩
  replace H : St w w22z [cOwn (α := Int) 3 v23z ((w_.getD s default).of), cOwn (α := Raw 2) 60 v_l rw_l, cRo B_l] R := H.ownOf hx_ ho_
  clear hx_ ho_
  obtain ⟨sd24z, hM⟩ := M.e_gd hM
  refine s_val (x_ix (a := v_l) (b := I (s : Int)) (v := vat v_l 3 (Int.toNat (s : Int))) rfl rfl (Sl.ix (α := Work) T22.und T22.size (rowSl rfl (H.get (k := 1) rfl) (Cells.sup_le (hC_w_.at H) (roLe _ (H.get (k := 2) rfl))) hr_l) (by omega) (by omega))) <| s_val (x_fa (a := vat v_l 3 (Int.toNat (s : Int))) (v := fat (vat v_l 3 (Int.toNat (s : Int))) 0) rfl (fa_pl Fd60_0 Sz34 (Sl.pl (i := (s : Int)) (rowSl rfl (H.get (k := 1) rfl) (Cells.sup_le (hC_w_.at H) (roLe _ (H.get (k := 2) rfl))) hr_l) (by omega) (by omega)))) ?_
  obtain ⟨Bs_5, H, hs27z⟩ := H.freezeE (k := 0) rfl
  replace H : St w w22z [cRo Bs_5, cOwn (α := Raw 2) 60 v_l rw_l, cRo B_l] R := H
  have hq26z := hs27z
  obtain ⟨Bs_6, H, le28z, le29z⟩ := H.joinE (i := 2) (j := 0) rfl rfl
  replace hr_l := hr_l.mono (Cells.sup_mono le28z (hC_w_.at H) (roLe _ (H.get (k := 0) rfl)))
  replace hq26z := hq26z.mono (le29z.trans (Cells.sup_r (hC_w_.at H) (roLe _ (H.get (k := 0) rfl))))
  have hl33z := hr_l.len
  obtain ⟨rw30z, hw32z⟩ : ∃ r : List (Raw 2), (rw_l).set s (Raw.put ((rw_l).getD s default) 0 [v23z] rfl (by simp only [List.all_cons, List.all_nil, Bool.true_and, Bool.and_true, Sl.oc hq26z]; try rfl)) = r := ⟨_, rfl⟩
  have hr31z : RepR (α := Work) (Cells.sup C_w_ Bs_6.cells) rw30z (l.set s ({ (l.getD s default) with of := ((w_.getD s default).of) })) := by rw [← hw32z]; exact hr_l.set _ (by obtain ⟨sv_0, hc_, hv_0⟩ := hr_l.getD (k := s) (by omega) default; show Elt.rep _ (((rw_l).getD s default).cs.take 0 ++ [v23z] ++ ((rw_l).getD s default).cs.drop (0 + ([v23z] : List Value).length)) _; rw [hc_]; exact ⟨_, rfl, hq26z⟩)
  refine t_fst (α := Raw 2) (k := 2) (i := (s : Int)) (off := 0) (l := rw_l) (l' := rw30z) (val := v23z) (L' := [cRo Bs_6, cRo Bs_5, cOwn (α := Raw 2) 60 v_l rw30z, cRo B_l]) H rfl Sz34 (by omega) (by omega) ((rw_l).getD s default) (Raw.put ((rw_l).getD s default) 0 [v23z] rfl (by simp only [List.all_cons, List.all_nil, Bool.true_and, Bool.and_true, Sl.oc hq26z]; try rfl)) (getD_some _ (by omega) _) rfl rfl [v23z] (Sl.cells hq26z) rfl rfl (by simp only [List.all_cons, List.all_nil, Bool.true_and, Bool.and_true, Sl.oc hq26z]; try rfl) rfl hw32z rfl ?_
  intro w34z H
  refine s_nil <| W.region rfl <| sR (s : Int) 1 ((s : Int) + 1) rfl rfl rfl (by omega) <| sM (I ((s : Int) + 1)) rfl <| s_nil ?_
  exact ⟨m13z, lt14z, l.set s ({ (l.getD s default) with of := ((w_.getD s default).of) }), s + 1, v_l, rw30z, Bs_6, _, upds_of _ _ ⟨rfl, rfl, rfl, rfl, trivial⟩, M.e_inl hM hN16z, (H.pick [2, 0] (by decide) rfl), hr31z⟩
 replace hM := M.e_f hM c17z
 simp only [qz1, qz2, qz3, qz4, qz5, qz6, ne_eq, qz7] at c17z
 refine W.exit ?_
 have hX35z := M.e_inr hM hN16z
 subst hX35z
 replace hM := hk9z
 try dsimp only at hM
 refine sQ rfl <| sM v_l rfl <| sA v_l rfl <| s_nil ?_
 refine W.ret ?_
 have hr_ := M.e_pure hM
 exact ⟨_, resE_tmp rfl, ⟨l, v_l, rw_l, B_l, hr_, rfl, H, hr_l⟩⟩

end Go.Proofs.Ytndobgodeicloaa
end
namespace Go.Proofs.Ytndobgodeicloaa
open Go Go.Nm
theorem copyWorks_ends {ws : List Work} (h : ws.length ≤ 1000) (ho : ∀ x ∈ ws, x.of.length ≤ 1000) : (m_nilometerlaw13_CopyWorks ws).Ends ws := by
  unfold m_nilometerlaw13_CopyWorks
  refine M.i_bind (a := ws) ?_ (M.i_bind (a := (ws, ws)) ?_ M.i_pure)
  · exact M.grdD (by simp only [List.length_nil]; omega) M.i_pure
  · refine M.i_for (fun i => (ws, i)) ws.length (fun i hi => ?_) ?_
    · have hm := ho _ (getD_memN ws (by omega : (i : Int) < ws.length) default)
      simp only [m_nilometerlaw13_CopyWorks_b0]
      refine M.i_t (by simpa using hi) (M.grdD (by omega) (M.grdD (by omega) (M.grdD (by omega) ?_)))
      rw [show ({ (ws.getD i default) with of := (ws.getD i default).of } : Work) = ws.getD i default from rfl, set_getD_self ws i hi]
      exact M.i_pure
    · simp only [m_nilometerlaw13_CopyWorks_b0]
      exact M.i_f (by simp) M.i_pure
end Go.Proofs.Ytndobgodeicloaa
namespace Go.Proofs.Ytndobgodeicloaa
open Go Go.Nm
theorem awake_ends : m_nilometerlaw13_awake.Ends true := ⟨40, by kernel_rfl⟩
end Go.Proofs.Ytndobgodeicloaa
section
set_option maxRecDepth 100000
set_option maxHeartbeats 16000000
namespace Go.Proofs.Ytndobgodeicloaa
open Go Go.Nm
def m_nilometerlaw13_NotesReady_b1 (r3 : List Work) (l : List Int) (s2 : Nat) : (Int × Nat) → M ((Int × Nat) ⊕ Int) := fun (begin, s) =>
  bif decide ((s : Int) < (((r3.getD s2 default).of).length : Int)) then (
  M.grd (decide ((s : Int) < (((r3.getD s2 default).of).length : Int))) <|
  M.grd (decide ((0 : Int) ≤ (((r3.getD s2 default).of).getD s 0)) && decide ((((r3.getD s2 default).of).getD s 0) < (l.length : Int))) <|
  M.pure (.inl (max begin (l.getD (Int.toNat (((r3.getD s2 default).of).getD s 0)) 0), s + 1)))
  else (
  M.pure (.inr begin))
def m_nilometerlaw13_NotesReady_b2 (r3 : List Work) (l : List Int) (l2 : List Int) : (Nat × Int) → M ((Nat × Int) ⊕ (Unit ⊕ Int)) := fun (s2, most) =>
  bif decide ((s2 : Int) < (r3.length : Int)) then (
  M.grd (decide ((s2 : Int) < (r3.length : Int))) <|
  bif !(l2.contains (s2 : Int)) then (
  M.grd (decide ((s2 : Int) < (l.length : Int))) <|
  bif (l.getD s2 0) != (-1) then (
  M.pure (.inr (.inl ())))
  else (
  M.pure (.inl (s2 + 1, most))))
  else (
  M.bind (M.iter (m_nilometerlaw13_NotesReady_b1 r3 l s2) (0, 0)) fun begin2 =>
  M.grd (decide ((s2 : Int) < (l.length : Int))) <|
  M.grd (decide ((-9223372036854775808 : Int) ≤ (begin2 + ((r3.getD s2 default).minutes))) && decide ((begin2 + ((r3.getD s2 default).minutes)) ≤ (9223372036854775807 : Int))) <|
  bif (l.getD s2 0) != (begin2 + ((r3.getD s2 default).minutes)) then (
  M.pure (.inr (.inl ())))
  else (
  M.pure (.inl (s2 + 1, max most (l.getD s2 0))))))
  else (
  M.pure (.inr (.inr most)))
def m_nilometerlaw13_NotesReady_b3 (r3 : List Work) (l2 : List Int) (l3 : List Int) : (Int × Nat) → M ((Int × Nat) ⊕ (Unit ⊕ Int)) := fun (sum, s3) =>
  bif decide ((s3 : Int) < (l3.length : Int)) then (
  M.grd (decide ((s3 : Int) < (l3.length : Int))) <|
  bif (((decide ((l3.getD s3 0) < 0)) || (decide ((r3.length : Int) ≤ (l3.getD s3 0)))) || (!(l2.contains (l3.getD s3 0)))) then (
  M.pure (.inr (.inl ())))
  else (
  M.grd (decide ((0 : Int) ≤ (l3.getD s3 0)) && decide ((l3.getD s3 0) < (r3.length : Int))) <|
  M.grd (decide ((-9223372036854775808 : Int) ≤ (sum + ((r3.getD (Int.toNat (l3.getD s3 0)) default).minutes))) && decide ((sum + ((r3.getD (Int.toNat (l3.getD s3 0)) default).minutes)) ≤ (9223372036854775807 : Int))) <|
  M.pure (.inl (sum + ((r3.getD (Int.toNat (l3.getD s3 0)) default).minutes), s3 + 1))))
  else (
  M.pure (.inr (.inr sum)))
def m_nilometerlaw13_NotesReady_b5 (tries : List UInt8) (r3 : List Work) (s11 : Int) : (Int × Int × Int × Nat) → M ((Int × Int × Int × Nat) ⊕ (Int × Int × Int)) := fun (s4, s5, next, s6) =>
  bif decide ((s6 : Int) < (r3.length : Int)) then (
  M.grd (decide ((s6 : Int) < (r3.length : Int))) <|
  bif ((((r3.getD s6 default).of).contains s11) && !(decide (next < 0))) then (
  M.bind (m_nilometerkit_Stream_Next tries s4 s5 2) fun (r20, q114, q214) =>
  bif ((((r3.getD s6 default).of).contains s11) && ((decide (next < 0)) || (r20 == 0))) then (
  M.pure (.inl (q114, q214, (s6 : Int), s6 + 1)))
  else (
  M.pure (.inl (q114, q214, next, s6 + 1))))
  else (
  bif ((((r3.getD s6 default).of).contains s11) && ((decide (next < 0)) || ((0 : Int) == 0))) then (
  M.pure (.inl (s4, s5, (s6 : Int), s6 + 1)))
  else (
  M.pure (.inl (s4, s5, next, s6 + 1)))))
  else (
  M.pure (.inr (s4, s5, next)))
def m_nilometerlaw13_NotesReady_b6 (tries : List UInt8) (r3 : List Work) : (Int × Int × Int × Int) → M ((Int × Int × Int × Int) ⊕ (Int × Int × Int)) := fun (s9, s10, s11, all) =>
  bif decide (0 ≤ s11) then (
  M.grd (decide ((0 : Int) ≤ s11) && decide (s11 < (r3.length : Int))) <|
  M.grd (decide ((-9223372036854775808 : Int) ≤ (all + ((r3.getD (Int.toNat s11) default).minutes))) && decide ((all + ((r3.getD (Int.toNat s11) default).minutes)) ≤ (9223372036854775807 : Int))) <|
  M.bind (M.iter (m_nilometerlaw13_NotesReady_b5 tries r3 s11) (s9, s10, -1, 0)) fun (s7, s8, next2) =>
  M.pure (.inl (s7, s8, next2, all + ((r3.getD (Int.toNat s11) default).minutes))))
  else (
  M.pure (.inr (all, s9, s10)))
def m_nilometerlaw13_NotesReady_b7 (longer : Int) (l : List Int) (l4 : List Int) : Nat → M (Nat ⊕ (Unit ⊕ Unit)) := fun s14 =>
  bif decide ((s14 : Int) < (l.length : Int)) then (
  M.grd (decide ((s14 : Int) < (l4.length : Int))) <|
  M.grd ((!(!(decide ((l4.getD s14 0) < (l.getD s14 0)))) || (decide ((-9223372036854775808 : Int) ≤ ((l.getD s14 0) + longer)) && decide (((l.getD s14 0) + longer) ≤ (9223372036854775807 : Int))))) <|
  bif ((decide ((l4.getD s14 0) < (l.getD s14 0))) || (decide (((l.getD s14 0) + longer) < (l4.getD s14 0)))) then (
  M.pure (.inr (.inl ())))
  else (
  M.pure (.inl (s14 + 1))))
  else (
  M.pure (.inr (.inr ())))
def m_nilometerlaw13_NotesReady (numbers : List UInt8) (tries : List UInt8) (which : Int) (longer : Int) : M Bool :=
  M.bind (m_nilometerkit_New numbers) fun (r1, r2) =>
  M.bind (m_nilometerkit_New tries) fun (r12, r22) =>
  M.bind (m_nilometerlaw13_Made numbers r1 r2 14) fun (r3, q1, q2) =>
  M.bind (m_nilometerlaw13_Revised numbers q1 q2 r3) fun (r4, q12, q22) =>
  M.bind (M.pure (readyR r3 r4, askedE r3 r4)) fun (l, e) =>
  M.bind (M.pure (staleR r3 r4, askedE r3 r4)) fun (l2, e2) =>
  M.bind (M.pure (longestR r3 r4, longestE r3 r4)) fun (l3, e3) =>
  bif (((((e != 0) || (e2 != 0)) || (e3 != 0)) || ((l.length : Int) != (r3.length : Int))) || ((l3.length : Int) == 0)) then (
  M.pure false)
  else (
  M.bind (M.iter (m_nilometerlaw13_NotesReady_b2 r3 l l2) (0, 0)) fun x_ => match x_ with
  | (.inl (_ : Unit)) => (
  M.pure false)
  | (.inr most2) => (
  M.bind (M.iter (m_nilometerlaw13_NotesReady_b3 r3 l2 l3) (0, 0)) fun x_ => match x_ with
  | (.inl (_ : Unit)) => (
  M.pure false)
  | (.inr sum2) => (
  M.bind (m_notes_Leads r3 l3) fun (r0, r13) =>
  bif (((r13 != 0) || (!r0)) || (sum2 != most2)) then (
  M.pure false)
  else (
  M.bind (m_nilometerkit_Stream_Next tries r12 r22 (l2.length : Int)) fun (r5, q13, q23) =>
  M.grd (decide ((0 : Int) ≤ r5) && decide (r5 < (l2.length : Int))) <|
  M.bind (M.iter (m_nilometerlaw13_NotesReady_b6 tries r3) (q13, q23, l2.getD (Int.toNat r5) 0, 0)) fun (all2, s12, s13) =>
  bif decide (most2 < all2) then (
  M.pure false)
  else (
  M.bind (m_nilometerlaw13_CopyWorks r3) fun r15 =>
  M.grd (decide ((0 : Int) ≤ which) && decide (which < (256 : Int))) <|
  M.grd (decide ((0 : Int) ≤ which) && decide ((0 : Int) < (r3.length : Int))) <|
  M.grd (decide ((0 : Int) ≤ (which % (r3.length : Int))) && decide ((which % (r3.length : Int)) < (r15.length : Int))) <|
  M.grd (decide ((0 : Int) ≤ longer) && decide (longer < (256 : Int))) <|
  M.grd (decide ((-9223372036854775808 : Int) ≤ (((r15.getD (Int.toNat (which % (r3.length : Int))) default).minutes) + longer)) && decide ((((r15.getD (Int.toNat (which % (r3.length : Int))) default).minutes) + longer) ≤ (9223372036854775807 : Int))) <|
  M.bind (M.pure (readyR (r15.set (Int.toNat (which % (r3.length : Int))) ({ (r15.getD (Int.toNat (which % (r3.length : Int))) default) with minutes := (((r15.getD (Int.toNat (which % (r3.length : Int))) default).minutes) + longer : Int) })) r4, askedE (r15.set (Int.toNat (which % (r3.length : Int))) ({ (r15.getD (Int.toNat (which % (r3.length : Int))) default) with minutes := (((r15.getD (Int.toNat (which % (r3.length : Int))) default).minutes) + longer : Int) })) r4)) fun (l4, e4) =>
  bif ((e4 != 0) || ((l4.length : Int) != (l.length : Int))) then (
  M.pure false)
  else (
  M.bind (M.iter (m_nilometerlaw13_NotesReady_b7 longer l l4) 0) fun x_ => match x_ with
  | (.inl (_ : Unit)) => (
  M.pure false)
  | (.inr (_ : Unit)) => (
  M.bind (m_nilometerlaw13_awake) fun r16 =>
  M.pure r16)))))))
theorem nilometerlaw13_NotesReady_ok {R : List Chunk} {C_numbers : Cells} {v_numbers : Value} {C_tries : Cells} {v_tries : Value} (numbers : List UInt8) (tries : List UInt8) (which : Int) (longer : Int) (hC_numbers : Reads R C_numbers) (hs_numbers : Sl C_numbers v_numbers numbers) (hC_tries : Reads R C_tries) (hs_tries : Sl C_tries v_tries tries) {r : Bool} (hM : (m_nilometerlaw13_NotesReady numbers tries which longer).Ends r) (w : World) (H : St w w [] R) : Ret Try.prog 7 #[v_numbers, v_tries, .int .u8 which, .int .u8 longer] w fun v w' => ∃ (y0 : Bool), y0 = r ∧ v = B y0 ∧ St w w' [] R := by
 refine ret_of_W Try.func7 rfl rfl rfl ?_
 refine sQ rfl <| sA (B false) rfl <| s_nil <| sQ rfl <| sM v_numbers rfl ?_
 obtain ⟨r2z, hx1z, hM⟩ := M.e_bind hM
 refine s_call cf40 [v_numbers] rfl (nilometerkit_New_ok numbers (hC_numbers.app _) hs_numbers hx1z _ (St.give (T := []) H rfl)) ?_
 rintro vq w3z ⟨r1, r2, nb0_1, hr4z, hvq, H2_⟩
 subst hr4z
 subst vq
 try dsimp only at hM
 replace H : St w w3z [cBlk nb0_1 [v_numbers, I r1, I r2] 158] R := H.back H2_ rfl
 clear H2_
 refine sM v_tries rfl ?_
 obtain ⟨r6z, hx5z, hM⟩ := M.e_bind hM
 refine s_call cf40 [v_tries] rfl (nilometerkit_New_ok tries (hC_tries.app _) hs_tries hx5z _ (St.give (T := [cBlk nb0_1 [v_numbers, I r1, I r2] 158]) H rfl)) ?_
 rintro vq w7z ⟨r12, r22, nb0_2, hr8z, hvq, H2_⟩
 subst hr8z
 subst vq
 try dsimp only at hM
 replace H : St w w7z [cBlk nb0_2 [v_tries, I r12, I r22] 158, cBlk nb0_1 [v_numbers, I r1, I r2] 158] R := H.back H2_ rfl
 clear H2_
 refine sA (Pz nb0_1) rfl <| sA (Pz nb0_2) rfl <| s_nil <| sQ rfl <| sM (Pz nb0_1) rfl ?_
 obtain ⟨r10z, hx9z, hM⟩ := M.e_bind hM
 refine s_call cf41 [Pz nb0_1, I 14] rfl (nilometerlaw13_Made_ok numbers r1 r2 14 (hC_numbers.app _) hs_numbers hx9z _ (St.give (L := [cBlk nb0_1 [v_numbers, I r1, I r2] 158, cBlk nb0_2 [v_tries, I r12, I r22] 158]) (A := [cBlk nb0_1 [v_numbers, I r1, I r2] 158]) (T := [cBlk nb0_2 [v_tries, I r12, I r22] 158]) (H.pick [1, 0] (by decide) rfl) rfl)) ?_
 rintro vq w11z ⟨r3, q1, q2, u0_3, rr1_4, Bs2_5, hr12z, hvq, H2_, hf13z⟩
 subst hr12z
 subst vq
 try dsimp only at hM
 replace H : St w w11z [cOwn (α := Raw 2) 60 u0_3 rr1_4, cRo Bs2_5, cBlk nb0_1 [v_numbers, I q1, I q2] 158, cBlk nb0_2 [v_tries, I r12, I r22] 158] R := H.pick [1, 0] (by decide) rfl |>.back H2_ rfl
 clear H2_
 refine sA u0_3 rfl <| s_nil <| sQ rfl <| sM (Pz nb0_1) rfl <| sM u0_3 rfl ?_
 obtain ⟨r15z, hx14z, hM⟩ := M.e_bind hM
 refine s_call cf47 [Pz nb0_1, u0_3] rfl (nilometerlaw13_Revised_ok numbers q1 q2 r3 (hC_numbers.app _) hs_numbers (Reads.sup (Reads.of (k := 0) rfl ownLe) (Reads.of (k := 1) rfl roLe)) (rowSl rfl (H.get (k := 0) rfl) (roLe _ (H.get (k := 1) rfl)) hf13z) hx14z _ (St.give (L := [cBlk nb0_1 [v_numbers, I q1, I q2] 158, cOwn (α := Raw 2) 60 u0_3 rr1_4, cRo Bs2_5, cBlk nb0_2 [v_tries, I r12, I r22] 158]) (A := [cBlk nb0_1 [v_numbers, I q1, I q2] 158]) (T := [cOwn (α := Raw 2) 60 u0_3 rr1_4, cRo Bs2_5, cBlk nb0_2 [v_tries, I r12, I r22] 158]) (H.pick [2, 0, 1, 3] (by decide) rfl) rfl)) ?_
 rintro vq w16z ⟨r4, q12, q22, u0_6, hr17z, hvq, H2_⟩
 subst hr17z
 subst vq
 try dsimp only at hM
 replace H : St w w16z [cOwn (α := Int) 3 u0_6 r4, cBlk nb0_1 [v_numbers, I q12, I q22] 158, cOwn (α := Raw 2) 60 u0_3 rr1_4, cRo Bs2_5, cBlk nb0_2 [v_tries, I r12, I r22] 158] R := H.pick [2, 0, 1, 3] (by decide) rfl |>.back H2_ rfl
 clear H2_
 refine sA u0_6 rfl <| s_nil <| sQ rfl <| sM u0_3 rfl <| sM u0_6 rfl ?_
 obtain ⟨⟨l, e⟩, hx21z, hM⟩ := M.e_bind hM
 obtain ⟨hq22z, hq23z⟩ := Prod.mk.inj (M.e_pure hx21z)
 try dsimp only at hM
 refine s_call cf36 [u0_3, u0_6] rfl (by have hc_ := (Ready_any _ ((rowSl rfl (H.get (k := 2) rfl) (roLe _ (H.get (k := 3) rfl)) hf13z).mono (Cells.sup_le (ownLe _ (H.get (k := 2) rfl)) (roLe _ (H.get (k := 3) rfl)))) ((ownSl (H.get (k := 0) rfl)).mono (ownLe _ (H.get (k := 0) rfl)))); rw [hq22z, hq23z] at hc_; exact hc_) ?_
 rintro _ w18z ⟨u19z, rfl, hs20z, hx_⟩
 obtain ⟨Bs_7, H, hs20z⟩ := H.fresh hx_ hs20z
 clear hx_
 have hl_hs20z := hs20z.len_le
 refine sM (.tuple #[u19z, I e]) rfl <| sX [u19z, I e] u19z rfl rfl <| sX [u19z, I e] (I e) rfl rfl <| sA u19z rfl <| sA (I e) rfl <| s_nil <| sQ rfl <| sM u0_3 rfl <| sM u0_6 rfl ?_
 obtain ⟨⟨l2, e2⟩, hx27z, hM⟩ := M.e_bind hM
 obtain ⟨hq28z, hq29z⟩ := Prod.mk.inj (M.e_pure hx27z)
 try dsimp only at hM
 refine s_call cf32 [u0_3, u0_6] rfl (by have hc_ := (Stale_any _ ((rowSl rfl (H.get (k := 3) rfl) (roLe _ (H.get (k := 4) rfl)) hf13z).mono (Cells.sup_le (ownLe _ (H.get (k := 3) rfl)) (roLe _ (H.get (k := 4) rfl)))) ((ownSl (H.get (k := 1) rfl)).mono (ownLe _ (H.get (k := 1) rfl)))); rw [hq28z, hq29z] at hc_; exact hc_) ?_
 rintro _ w24z ⟨u25z, rfl, hs26z, hx_⟩
 obtain ⟨Bs_8, H, hs26z⟩ := H.fresh hx_ hs26z
 clear hx_
 have hl_hs26z := hs26z.len_le
 refine sM (.tuple #[u25z, I e2]) rfl <| sX [u25z, I e2] u25z rfl rfl <| sX [u25z, I e2] (I e2) rfl rfl <| sA u25z rfl <| sA (I e2) rfl <| s_nil <| sQ rfl <| sM u0_3 rfl <| sM u0_6 rfl ?_
 obtain ⟨⟨l3, e3⟩, hx33z, hM⟩ := M.e_bind hM
 obtain ⟨hq34z, hq35z⟩ := Prod.mk.inj (M.e_pure hx33z)
 try dsimp only at hM
 refine s_call cf38 [u0_3, u0_6] rfl (by have hc_ := (Longest_any _ ((rowSl rfl (H.get (k := 4) rfl) (roLe _ (H.get (k := 5) rfl)) hf13z).mono (Cells.sup_le (ownLe _ (H.get (k := 4) rfl)) (roLe _ (H.get (k := 5) rfl)))) ((ownSl (H.get (k := 2) rfl)).mono (ownLe _ (H.get (k := 2) rfl)))); rw [hq34z, hq35z] at hc_; exact hc_) ?_
 rintro _ w30z ⟨u31z, rfl, hs32z, hx_⟩
 obtain ⟨Bs_9, H, hs32z⟩ := H.fresh hx_ hs32z
 clear hx_
 have hl_hs32z := hs32z.len_le
 refine sM (.tuple #[u31z, I e3]) rfl <| sX [u31z, I e3] u31z rfl rfl <| sX [u31z, I e3] (I e3) rfl rfl <| sA u31z rfl <| sA (I e3) rfl <| s_nil <| W.seq <| sQ rfl <| sM (I e) rfl <| sC e 0 (e != 0) rfl rfl rfl <| sM (B (e != 0)) rfl ?_
 refine g_val (!(e != 0)) (gy_f rfl) (fun hg => x_mv (v := I e2) rfl) <| g_val (!(e != 0)) (gy_f rfl) (fun hg => x_cmp (kd := .i64) (a := e2) (b := 0) (r := e2 != 0) (gd_of (c := !(e != 0)) hg (I e2)) rfl rfl) <| s_val (x_por (b := e != 0) (r := e2 != 0) rfl rfl (fun hb => gd_of (c := !(e != 0)) (by simp_all) (B (e2 != 0)))) <| sM (B ((e != 0) || (e2 != 0))) rfl <| g_val (!((e != 0) || (e2 != 0))) (gy_f rfl) (fun hg => x_mv (v := I e3) rfl) <| g_val (!((e != 0) || (e2 != 0))) (gy_f rfl) (fun hg => x_cmp (kd := .i64) (a := e3) (b := 0) (r := e3 != 0) (gd_of (c := !((e != 0) || (e2 != 0))) hg (I e3)) rfl rfl) <| s_val (x_por (b := ((e != 0) || (e2 != 0))) (r := e3 != 0) rfl rfl (fun hb => gd_of (c := !((e != 0) || (e2 != 0))) (by simp_all) (B (e3 != 0)))) <| sM (B (((e != 0) || (e2 != 0)) || (e3 != 0))) rfl <| g_val (!(((e != 0) || (e2 != 0)) || (e3 != 0))) (gy_f rfl) (fun hg => x_mv (v := u19z) rfl) <| g_val (!(((e != 0) || (e2 != 0)) || (e3 != 0))) (gy_f rfl) (fun hg => x_lenS T34.und (gd_of (c := !(((e != 0) || (e2 != 0)) || (e3 != 0))) hg (u19z)) hs20z) <| g_val (!(((e != 0) || (e2 != 0)) || (e3 != 0))) (gy_f rfl) (fun hg => x_mv (v := u0_3) rfl) <| g_val (!(((e != 0) || (e2 != 0)) || (e3 != 0))) (gy_f rfl) (fun hg => x_lenS T22.und (gd_of (c := !(((e != 0) || (e2 != 0)) || (e3 != 0))) hg (u0_3)) (rowSl rfl (H.get (k := 5) rfl) (roLe _ (H.get (k := 6) rfl)) hf13z)) ?_
 refine g_val (!(((e != 0) || (e2 != 0)) || (e3 != 0))) (gy_f rfl) (fun hg => x_cmp (kd := .i64) (a := (l.length : Int)) (b := (r3.length : Int)) (r := (l.length : Int) != (r3.length : Int)) (gd_of (c := !(((e != 0) || (e2 != 0)) || (e3 != 0))) hg (I (l.length : Int))) (gd_of (c := !(((e != 0) || (e2 != 0)) || (e3 != 0))) hg (I (r3.length : Int))) rfl) <| s_val (x_por (b := (((e != 0) || (e2 != 0)) || (e3 != 0))) (r := (l.length : Int) != (r3.length : Int)) rfl rfl (fun hb => gd_of (c := !(((e != 0) || (e2 != 0)) || (e3 != 0))) (by simp_all) (B ((l.length : Int) != (r3.length : Int))))) <| sM (B ((((e != 0) || (e2 != 0)) || (e3 != 0)) || ((l.length : Int) != (r3.length : Int)))) rfl <| g_val (!((((e != 0) || (e2 != 0)) || (e3 != 0)) || ((l.length : Int) != (r3.length : Int)))) (gy_f rfl) (fun hg => x_mv (v := u31z) rfl) <| g_val (!((((e != 0) || (e2 != 0)) || (e3 != 0)) || ((l.length : Int) != (r3.length : Int)))) (gy_f rfl) (fun hg => x_lenS T34.und (gd_of (c := !((((e != 0) || (e2 != 0)) || (e3 != 0)) || ((l.length : Int) != (r3.length : Int)))) hg (u31z)) hs32z) <| g_val (!((((e != 0) || (e2 != 0)) || (e3 != 0)) || ((l.length : Int) != (r3.length : Int)))) (gy_f rfl) (fun hg => x_cmp (kd := .i64) (a := (l3.length : Int)) (b := 0) (r := (l3.length : Int) == 0) (gd_of (c := !((((e != 0) || (e2 != 0)) || (e3 != 0)) || ((l.length : Int) != (r3.length : Int)))) hg (I (l3.length : Int))) rfl rfl) <| s_val (x_por (b := ((((e != 0) || (e2 != 0)) || (e3 != 0)) || ((l.length : Int) != (r3.length : Int)))) (r := (l3.length : Int) == 0) rfl rfl (fun hb => gd_of (c := !((((e != 0) || (e2 != 0)) || (e3 != 0)) || ((l.length : Int) != (r3.length : Int)))) (by simp_all) (B ((l3.length : Int) == 0)))) <| s_nil ?_
 refine W.cond (((((e != 0) || (e2 != 0)) || (e3 != 0)) || ((l.length : Int) != (r3.length : Int))) || ((l3.length : Int) == 0)) rfl (fun c39z => ?_) (fun c39z => ?_)
 ·replace hM := M.e_t hM c39z
  refine sQ rfl <| sA (B false) rfl <| s_nil ?_
  refine W.ret ?_
  have hr_ := M.e_pure hM
  exact ⟨_, resE_tmp rfl, ⟨false, hr_, rfl, (H.pick [] (by decide) rfl)⟩⟩
 replace hM := M.e_f hM c39z
 refine W.skip <| sQ rfl <| sA (I 0) rfl <| s_nil <| W.seq <| sQ rfl <| sM u0_3 rfl ?_
 have hl40z := ((rowSl rfl (H.get (k := 5) rfl) (roLe _ (H.get (k := 6) rfl)) hf13z)).len_le
 refine s_val (x_lenS T22.und rfl (rowSl rfl (H.get (k := 5) rfl) (roLe _ (H.get (k := 6) rfl)) hf13z)) <| sM (I 0) rfl <| s_nil <| W.block ?_
 obtain ⟨ex41z, hi42z, hk43z⟩ := M.e_bind hM
 obtain ⟨m0_, hi42z⟩ := M.e_iter hi42z
 refine W.loop (fun m σ W => ∃ (s2 : Nat) (most : Int) (ρ : Env), σ = upds ρ [(2, .int .u8 which), (3, .int .u8 longer), (10, Pz nb0_2), (11, u0_3), (12, u0_6), (13, u19z), (15, u25z), (17, u31z), (19, I most), (85, u0_3), (86, I (r3.length : Int)), (87, I (s2 : Int))] ∧ M.iterN (m_nilometerlaw13_NotesReady_b2 r3 l l2) m (s2, most) = some ex41z ∧ St w W [cRo Bs_9, cRo Bs_8, cRo Bs_7, cOwn (α := Int) 3 u0_6 r4, cBlk nb0_1 [v_numbers, I q12, I q22] 158, cOwn (α := Raw 2) 60 u0_3 rr1_4, cRo Bs2_5, cBlk nb0_2 [v_tries, I r12, I r22] 158] R) ?_ ?_
 ·exact ⟨_, 0, 0, _, upds_of _ _ ⟨rfl, rfl, rfl, rfl, rfl, rfl, rfl, rfl, rfl, rfl, rfl, rfl, trivial⟩, hi42z, H⟩
 rintro m46z σ w44z ⟨s2, most, ρ, rfl, hI45z, H⟩
 obtain ⟨m47z, lt48z, x49z, hM, hN50z⟩ := M.e_iterN hI45z
 simp only [m_nilometerlaw13_NotesReady_b2] at hM
 clear hI45z
 refine sQ rfl <| sC (s2 : Int) (r3.length : Int) (decide ((s2 : Int) < (r3.length : Int))) rfl rfl rfl <| s_nil <| W.seq ?_
 refine W.cond (decide ((s2 : Int) < (r3.length : Int))) rfl (fun c51z => ?_) (fun c51z => ?_)
 ·replace hM := M.e_t hM c51z
  simp only [qz1, qz2, qz3, qz4, qz5, qz6, ne_eq, qz7] at c51z
  refine W.skip <| W.seq <| W.block <| sQ rfl <| sM (I (s2 : Int)) rfl ?_
  obtain ⟨sd52z, hM⟩ := M.e_gd hM
  refine s_val (x_ix (a := u0_3) (b := I (s2 : Int)) (v := vat u0_3 3 (Int.toNat (s2 : Int))) rfl rfl (Sl.ix (α := Work) T22.und T22.size (rowSl rfl (H.get (k := 5) rfl) (roLe _ (H.get (k := 6) rfl)) hf13z) (by omega) (by omega))) ?_
  obtain ⟨u53z, ha55z, hs54z⟩ := Work_atA (rowSl rfl (H.get (k := 5) rfl) (roLe _ (H.get (k := 6) rfl)) hf13z) (i := (s2 : Int)) (by omega) (by omega)
  replace hs54z : Sl _ u53z (r3.getD s2 default).of := hs54z
  have hl_hs54z := hs54z.len_le
  refine s_val (x_ld (p := vat u0_3 3 (Int.toNat (s2 : Int))) (v := .agg #[u53z, I ((r3.getD s2 default).base), I ((r3.getD s2 default).minutes)]) rfl (ld_ag Ag60 Sz60 (At.mono ha55z (Cells.sup_le (ownLe _ (H.get (k := 5) rfl)) (roLe _ (H.get (k := 6) rfl)))))) ?_
  refine t_alloc (cs := [.slice none 0 0, I 0, I 0]) H Al60 rfl ?_
  intro b_10 w56z H
  refine sA (I (s2 : Int)) rfl ?_
  refine t_st (k := 0) (b := b_10) (off := 0) (cs := [.slice none 0 0, I 0, I 0]) (vs := [u53z, I ((r3.getD s2 default).base), I ((r3.getD s2 default).minutes)]) (cs' := [u53z, I ((r3.getD s2 default).base), I ((r3.getD s2 default).minutes)]) (v := .agg #[u53z, I ((r3.getD s2 default).base), I ((r3.getD s2 default).minutes)]) (L' := [cBlk b_10 [u53z, I ((r3.getD s2 default).base), I ((r3.getD s2 default).minutes)] 60, cRo Bs_9, cRo Bs_8, cRo Bs_7, cOwn (α := Int) 3 u0_6 r4, cBlk nb0_1 [v_numbers, I q12, I q22] 158, cOwn (α := Raw 2) 60 u0_3 rr1_4, cRo Bs2_5, cBlk nb0_2 [v_tries, I r12, I r22] 158]) H rfl rfl rfl Sz60 rfl rfl rfl (by simp only [List.all_cons, List.all_nil, Bool.true_and, Bool.and_true, Sl.oc hs54z]; try rfl) rfl rfl ?_
  intro w57z H
  refine s_nil <| W.seq <| sQ rfl <| sM u25z rfl <| sM (I (s2 : Int)) rfl ?_
  refine s_call cf45 [u25z, I (s2 : Int)] rfl (contains_int (s2 : Int) _ (hs26z.mono (roLe _ (H.get (k := 2) rfl)))) ?_
  rintro _ w58z ⟨rfl, hx_⟩
  replace H : St w w58z [cBlk b_10 [u53z, I ((r3.getD s2 default).base), I ((r3.getD s2 default).minutes)] 60, cRo Bs_9, cRo Bs_8, cRo Bs_7, cOwn (α := Int) 3 u0_6 r4, cBlk nb0_1 [v_numbers, I q12, I q22] 158, cOwn (α := Raw 2) 60 u0_3 rr1_4, cRo Bs2_5, cBlk nb0_2 [v_tries, I r12, I r22] 158] R := H.ext hx_
  clear hx_
  refine s_val (x_not (b := l2.contains (s2 : Int)) rfl) <| s_nil ?_
  refine W.cond (!(l2.contains (s2 : Int))) rfl (fun c59z => ?_) (fun c59z => ?_)
  ·replace hM := M.e_t hM c59z
   refine W.seq <| sQ rfl <| sM u19z rfl <| sM (I (s2 : Int)) rfl ?_
   obtain ⟨sd60z, hM⟩ := M.e_gd hM
   refine s_val (x_ix (a := u19z) (b := I (s2 : Int)) (v := vat u19z 1 (Int.toNat (s2 : Int))) rfl rfl (Sl.ix (α := Int) T34.und T34.size hs20z (by omega) (by omega))) <| s_val (x_ld (p := vat u19z 1 (Int.toNat (s2 : Int))) (v := I (l.getD s2 0)) rfl (ld_sc Sc3 (At.mono (Int_at hs20z (i := (s2 : Int)) (by omega) (by omega)) (roLe _ (H.get (k := 3) rfl))))) <| sC (l.getD s2 0) (-1) ((l.getD s2 0) != (-1)) rfl rfl rfl <| s_nil ?_
   refine W.cond ((l.getD s2 0) != (-1)) rfl (fun c61z => ?_) (fun c61z => ?_)
   ·replace hM := M.e_t hM c61z
    simp only [qz1, qz2, qz3, qz4, qz5, qz6, ne_eq, qz7] at c61z
    refine sQ rfl <| sA (B false) rfl <| s_nil ?_
    refine W.ret ?_
    have hX62z := M.e_inr hM hN50z
    subst hX62z
    replace hM := hk43z
    try dsimp only at hM
    have hr_ := M.e_pure hM
    exact ⟨_, resE_tmp rfl, ⟨false, hr_, rfl, (H.pick [] (by decide) rfl)⟩⟩
   replace hM := M.e_f hM c61z
   simp only [qz1, qz2, qz3, qz4, qz5, qz6, ne_eq, qz7] at c61z
   refine W.skip ?_
   refine W.exit ?_
   refine W.region rfl <| sR (s2 : Int) 1 ((s2 : Int) + 1) rfl rfl rfl (by omega) <| sM (I ((s2 : Int) + 1)) rfl <| s_nil ?_
   exact ⟨m47z, lt48z, s2 + 1, most, _, upds_of _ _ ⟨rfl, rfl, rfl, rfl, rfl, rfl, rfl, rfl, rfl, rfl, rfl, rfl, trivial⟩, M.e_inl hM hN50z, (H.pick [1, 2, 3, 4, 5, 6, 7, 8] (by decide) rfl)⟩
  replace hM := M.e_f hM c59z
  refine W.skip <| sQ rfl <| sA (I 0) rfl <| s_nil <| W.seq <| sQ rfl <| s_val (x_fa (a := Pz b_10) (v := Pz b_10) rfl (fa_blk (o := 0) Fd60_0 Sz34)) <| s_val (x_ld (p := Pz b_10) (v := u53z) rfl (ldb_sc Sc34 (H.blk (k := 0) rfl) rfl)) ?_
  have hl63z := (hs54z).len_le
  refine s_val (x_lenS T34.und rfl hs54z) <| sM (I 0) rfl <| s_nil <| W.block ?_
  obtain ⟨ex64z, hi65z, hk66z⟩ := M.e_bind hM
  obtain ⟨m0_, hi65z⟩ := M.e_iter hi65z
  refine W.loop (fun m σ W => ∃ (begin : Int) (s : Nat) (ρ : Env), σ = upds ρ [(2, .int .u8 which), (3, .int .u8 longer), (10, Pz nb0_2), (11, u0_3), (12, u0_6), (13, u19z), (15, u25z), (17, u31z), (19, I most), (20, I (s2 : Int)), (21, Pz b_10), (22, I begin), (85, u0_3), (86, I (r3.length : Int)), (87, I (s2 : Int)), (102, u53z), (103, I (((r3.getD s2 default).of).length : Int)), (104, I (s : Int))] ∧ M.iterN (m_nilometerlaw13_NotesReady_b1 r3 l s2) m (begin, s) = some ex64z ∧ St w W [cBlk b_10 [u53z, I ((r3.getD s2 default).base), I ((r3.getD s2 default).minutes)] 60, cRo Bs_9, cRo Bs_8, cRo Bs_7, cOwn (α := Int) 3 u0_6 r4, cBlk nb0_1 [v_numbers, I q12, I q22] 158, cOwn (α := Raw 2) 60 u0_3 rr1_4, cRo Bs2_5, cBlk nb0_2 [v_tries, I r12, I r22] 158] R) ?_ ?_
  ·exact ⟨_, 0, 0, _, upds_of _ _ ⟨rfl, rfl, rfl, rfl, rfl, rfl, rfl, rfl, rfl, rfl, rfl, rfl, rfl, rfl, rfl, rfl, rfl, rfl, trivial⟩, hi65z, H⟩
  rintro m69z σ w67z ⟨begin, s, ρ, rfl, hI68z, H⟩
  obtain ⟨m70z, lt71z, x72z, hM, hN73z⟩ := M.e_iterN hI68z
  simp only [m_nilometerlaw13_NotesReady_b1] at hM
  clear hI68z
  refine sQ rfl <| sC (s : Int) (((r3.getD s2 default).of).length : Int) (decide ((s : Int) < (((r3.getD s2 default).of).length : Int))) rfl rfl rfl <| s_nil <| W.seq ?_
  refine W.cond (decide ((s : Int) < (((r3.getD s2 default).of).length : Int))) rfl (fun c74z => ?_) (fun c74z => ?_)
  ·replace hM := M.e_t hM c74z
   simp only [qz1, qz2, qz3, qz4, qz5, qz6, ne_eq, qz7] at c74z
   refine W.skip <| W.seq <| W.block <| sQ rfl ?_
   obtain ⟨sd75z, hM⟩ := M.e_gd hM
   refine s_val (x_ix (a := u53z) (b := I (s : Int)) (v := vat u53z 1 (Int.toNat (s : Int))) rfl rfl (Sl.ix (α := Int) T34.und T34.size hs54z (by omega) (by omega))) <| s_val (x_ld (p := vat u53z 1 (Int.toNat (s : Int))) (v := I (((r3.getD s2 default).of).getD s 0)) rfl (ld_sc Sc3 (At.mono (Int_at hs54z (i := (s : Int)) (by omega) (by omega)) (Cells.sup_le (ownLe _ (H.get (k := 6) rfl)) (roLe _ (H.get (k := 7) rfl)))))) <| sA (I (((r3.getD s2 default).of).getD s 0)) rfl <| s_nil <| W.region rfl <| sM (I begin) rfl <| sM u19z rfl <| sM (I (((r3.getD s2 default).of).getD s 0)) rfl ?_
   obtain ⟨sd76z, hM⟩ := M.e_gd hM
   refine s_val (x_ix (a := u19z) (b := I (((r3.getD s2 default).of).getD s 0)) (v := vat u19z 1 (Int.toNat (((r3.getD s2 default).of).getD s 0))) rfl rfl (Sl.ix (α := Int) T34.und T34.size hs20z (by omega) (by omega))) <| s_val (x_ld (p := vat u19z 1 (Int.toNat (((r3.getD s2 default).of).getD s 0))) (v := I (l.getD (Int.toNat (((r3.getD s2 default).of).getD s 0)) 0)) rfl (ld_sc Sc3 (At.mono (Int_at hs20z (i := ((r3.getD s2 default).of).getD s 0) (by omega) (by omega)) (roLe _ (H.get (k := 3) rfl))))) <| s_val (x_max (kd := .i64) (a := begin) (b := l.getD (Int.toNat (((r3.getD s2 default).of).getD s 0)) 0) rfl rfl) <| sA (I (max begin (l.getD (Int.toNat (((r3.getD s2 default).of).getD s 0)) 0))) rfl <| s_nil <| W.region rfl <| sR (s : Int) 1 ((s : Int) + 1) rfl rfl rfl (by omega) <| sM (I ((s : Int) + 1)) rfl <| s_nil ?_
   exact ⟨m70z, lt71z, max begin (l.getD (Int.toNat (((r3.getD s2 default).of).getD s 0)) 0), s + 1, _, upds_of _ _ ⟨rfl, rfl, rfl, rfl, rfl, rfl, rfl, rfl, rfl, rfl, rfl, rfl, rfl, rfl, rfl, rfl, rfl, rfl, trivial⟩, M.e_inl hM hN73z, H⟩
  replace hM := M.e_f hM c74z
  simp only [qz1, qz2, qz3, qz4, qz5, qz6, ne_eq, qz7] at c74z
  refine W.exit ?_
  have hX77z := M.e_inr hM hN73z
  subst hX77z
  replace hM := hk66z
  try dsimp only at hM
  refine W.seq <| W.seq ?_
  refine W.draw (fun W => St w W [cBlk b_10 [u53z, I ((r3.getD s2 default).base), I ((r3.getD s2 default).minutes)] 60, cRo Bs_9, cRo Bs_8, cRo Bs_7, cOwn (α := Int) 3 u0_6 r4, cBlk nb0_1 [v_numbers, I q12, I q22] 158, cOwn (α := Raw 2) 60 u0_3 rr1_4, cRo Bs2_5, cBlk nb0_2 [v_tries, I r12, I r22] 158] R) [(0, true), (1, true), (2, true), (3, true), (4, true), (5, true), (6, true), (7, true), (8, true)] mixed (by decide +kernel) rfl ?_
  intro w78z hx_
  replace H : St w w78z [cBlk b_10 [u53z, I ((r3.getD s2 default).base), I ((r3.getD s2 default).minutes)] 60, cRo Bs_9, cRo Bs_8, cRo Bs_7, cOwn (α := Int) 3 u0_6 r4, cBlk nb0_1 [v_numbers, I q12, I q22] 158, cOwn (α := Raw 2) 60 u0_3 rr1_4, cRo Bs2_5, cBlk nb0_2 [v_tries, I r12, I r22] 158] R := H.ext hx_
  clear hx_
  refine ⟨(H.pick [0, 1, 2, 3, 4, 5, 6, 7, 8] (by decide) rfl), ?_⟩
  refine d_q rfl (fun w' H => x_mv (v := u19z) rfl) ?_
  refine d_q rfl (fun w' H => x_mv (v := I (s2 : Int)) rfl) ?_
  obtain ⟨sd79z, hM⟩ := M.e_gd hM
  refine d_q rfl (fun w' H => x_ix (a := u19z) (b := I (s2 : Int)) (v := vat u19z 1 (Int.toNat (s2 : Int))) rfl rfl (Sl.ix (α := Int) T34.und T34.size hs20z (by omega) (by omega))) ?_
  refine d_q rfl (fun w' H => x_ld (p := vat u19z 1 (Int.toNat (s2 : Int))) (v := I (l.getD s2 0)) rfl (ld_sc Sc3 (At.mono (Int_at hs20z (i := (s2 : Int)) (by omega) (by omega)) (roLe _ (H.get (k := 3) rfl))))) ?_
  refine d_q rfl (fun w' H => x_mv (v := I begin) rfl) ?_
  refine d_q rfl (fun w' H => x_fa (a := Pz b_10) (v := Oz b_10 2) rfl (fa_blk (o := 0) Fd60_2 Sz3)) ?_
  refine d_q rfl (fun w' H => x_ld (p := Oz b_10 2) (v := I ((r3.getD s2 default).minutes)) rfl (ldb_sc Sc3 (H.blk (k := 0) rfl) rfl)) ?_
  obtain ⟨sd80z, hM⟩ := M.e_gd hM
  refine d_q rfl (fun w' H => x_ari (a := begin) (b := (r3.getD s2 default).minutes) (r := begin + ((r3.getD s2 default).minutes)) rfl rfl rfl (by omega)) ?_
  refine d_q rfl (fun w' H => x_cmp (kd := .i64) (a := l.getD s2 0) (b := begin + ((r3.getD s2 default).minutes)) (r := (l.getD s2 0) != (begin + ((r3.getD s2 default).minutes))) rfl rfl rfl) ?_
  refine d_nil ?_
  refine W.cond ((l.getD s2 0) != (begin + ((r3.getD s2 default).minutes))) rfl (fun c81z => ?_) (fun c81z => ?_)
  ·replace hM := M.e_t hM c81z
   simp only [qz1, qz2, qz3, qz4, qz5, qz6, ne_eq, qz7] at c81z
   refine sQ rfl <| sA (B false) rfl <| s_nil ?_
   refine W.ret ?_
   have hX82z := M.e_inr hM hN50z
   subst hX82z
   replace hM := hk43z
   try dsimp only at hM
   have hr_ := M.e_pure hM
   exact ⟨_, resE_tmp rfl, ⟨false, hr_, rfl, (H.pick [] (by decide) rfl)⟩⟩
  replace hM := M.e_f hM c81z
  simp only [qz1, qz2, qz3, qz4, qz5, qz6, ne_eq, qz7] at c81z
  refine W.skip <| W.region rfl <| sM (I most) rfl <| sM u19z rfl <| sM (I (s2 : Int)) rfl <| s_val (x_ix (a := u19z) (b := I (s2 : Int)) (v := vat u19z 1 (Int.toNat (s2 : Int))) rfl rfl (Sl.ix (α := Int) T34.und T34.size hs20z (by omega) (by omega))) <| s_val (x_ld (p := vat u19z 1 (Int.toNat (s2 : Int))) (v := I (l.getD s2 0)) rfl (ld_sc Sc3 (At.mono (Int_at hs20z (i := (s2 : Int)) (by omega) (by omega)) (roLe _ (H.get (k := 3) rfl))))) <| s_val (x_max (kd := .i64) (a := most) (b := l.getD s2 0) rfl rfl) <| sA (I (max most (l.getD s2 0))) rfl <| s_nil <| W.region rfl <| sR (s2 : Int) 1 ((s2 : Int) + 1) rfl rfl rfl (by omega) ?_
  refine sM (I ((s2 : Int) + 1)) rfl <| s_nil ?_
  exact ⟨m47z, lt48z, s2 + 1, max most (l.getD s2 0), _, upds_of _ _ ⟨rfl, rfl, rfl, rfl, rfl, rfl, rfl, rfl, rfl, rfl, rfl, rfl, trivial⟩, M.e_inl hM hN50z, (H.pick [1, 2, 3, 4, 5, 6, 7, 8] (by decide) rfl)⟩
 replace hM := M.e_f hM c51z
 simp only [qz1, qz2, qz3, qz4, qz5, qz6, ne_eq, qz7] at c51z
 refine W.exit ?_
 have hX83z := M.e_inr hM hN50z
 subst hX83z
 replace hM := hk43z
 try dsimp only at hM
 refine sQ rfl <| sA (I 0) rfl <| s_nil <| W.seq <| sQ rfl <| sM u31z rfl ?_
 have hl84z := (hs32z).len_le
 refine s_val (x_lenS T34.und rfl hs32z) <| sM (I 0) rfl <| s_nil <| W.block ?_
 obtain ⟨ex85z, hi86z, hk87z⟩ := M.e_bind hM
 obtain ⟨m0_, hi86z⟩ := M.e_iter hi86z
 refine W.loop (fun m σ W => ∃ (sum : Int) (s3 : Nat) (ρ : Env), σ = upds ρ [(2, .int .u8 which), (3, .int .u8 longer), (10, Pz nb0_2), (11, u0_3), (12, u0_6), (13, u19z), (15, u25z), (17, u31z), (19, I most), (25, I sum), (131, u31z), (132, I (l3.length : Int)), (133, I (s3 : Int))] ∧ M.iterN (m_nilometerlaw13_NotesReady_b3 r3 l2 l3) m (sum, s3) = some ex85z ∧ St w W [cRo Bs_9, cRo Bs_8, cRo Bs_7, cOwn (α := Int) 3 u0_6 r4, cBlk nb0_1 [v_numbers, I q12, I q22] 158, cOwn (α := Raw 2) 60 u0_3 rr1_4, cRo Bs2_5, cBlk nb0_2 [v_tries, I r12, I r22] 158] R) ?_ ?_
 ·exact ⟨_, 0, 0, _, upds_of _ _ ⟨rfl, rfl, rfl, rfl, rfl, rfl, rfl, rfl, rfl, rfl, rfl, rfl, rfl, trivial⟩, hi86z, H⟩
 rintro m90z σ w88z ⟨sum, s3, ρ, rfl, hI89z, H⟩
 obtain ⟨m91z, lt92z, x93z, hM, hN94z⟩ := M.e_iterN hI89z
 simp only [m_nilometerlaw13_NotesReady_b3] at hM
 clear hI89z
 refine sQ rfl <| sC (s3 : Int) (l3.length : Int) (decide ((s3 : Int) < (l3.length : Int))) rfl rfl rfl <| s_nil <| W.seq ?_
 refine W.cond (decide ((s3 : Int) < (l3.length : Int))) rfl (fun c95z => ?_) (fun c95z => ?_)
 ·replace hM := M.e_t hM c95z
  simp only [qz1, qz2, qz3, qz4, qz5, qz6, ne_eq, qz7] at c95z
  refine W.skip <| W.seq <| W.block <| sQ rfl ?_
  obtain ⟨sd96z, hM⟩ := M.e_gd hM
  refine s_val (x_ix (a := u31z) (b := I (s3 : Int)) (v := vat u31z 1 (Int.toNat (s3 : Int))) rfl rfl (Sl.ix (α := Int) T34.und T34.size hs32z (by omega) (by omega))) <| s_val (x_ld (p := vat u31z 1 (Int.toNat (s3 : Int))) (v := I (l3.getD s3 0)) rfl (ld_sc Sc3 (At.mono (Int_at hs32z (i := (s3 : Int)) (by omega) (by omega)) (roLe _ (H.get (k := 0) rfl))))) <| sA (I (l3.getD s3 0)) rfl <| s_nil <| W.seq <| sQ rfl <| sM (I (l3.getD s3 0)) rfl <| sC (l3.getD s3 0) 0 (decide ((l3.getD s3 0) < 0)) rfl rfl rfl <| sM (B (decide ((l3.getD s3 0) < 0))) rfl <| g_val (!(decide ((l3.getD s3 0) < 0))) (gy_f rfl) (fun hg => x_mv (v := I (l3.getD s3 0)) rfl) <| g_val (!(decide ((l3.getD s3 0) < 0))) (gy_f rfl) (fun hg => x_mv (v := u0_3) rfl) ?_
  refine g_val (!(decide ((l3.getD s3 0) < 0))) (gy_f rfl) (fun hg => x_lenS T22.und (gd_of (c := !(decide ((l3.getD s3 0) < 0))) hg (u0_3)) (rowSl rfl (H.get (k := 5) rfl) (roLe _ (H.get (k := 6) rfl)) hf13z)) <| g_val (!(decide ((l3.getD s3 0) < 0))) (gy_f rfl) (fun hg => x_cmp (kd := .i64) (a := l3.getD s3 0) (b := (r3.length : Int)) (r := decide ((r3.length : Int) ≤ (l3.getD s3 0))) (gd_of (c := !(decide ((l3.getD s3 0) < 0))) hg (I (l3.getD s3 0))) (gd_of (c := !(decide ((l3.getD s3 0) < 0))) hg (I (r3.length : Int))) rfl) <| s_val (x_por (b := decide ((l3.getD s3 0) < 0)) (r := decide ((r3.length : Int) ≤ (l3.getD s3 0))) rfl rfl (fun hb => gd_of (c := !(decide ((l3.getD s3 0) < 0))) (by simp_all) (B (decide ((r3.length : Int) ≤ (l3.getD s3 0)))))) <| sM (B ((decide ((l3.getD s3 0) < 0)) || (decide ((r3.length : Int) ≤ (l3.getD s3 0))))) rfl <| g_val (!((decide ((l3.getD s3 0) < 0)) || (decide ((r3.length : Int) ≤ (l3.getD s3 0))))) (gy_f rfl) (fun hg => x_mv (v := u25z) rfl) <| g_val (!((decide ((l3.getD s3 0) < 0)) || (decide ((r3.length : Int) ≤ (l3.getD s3 0))))) (gy_f rfl) (fun hg => x_mv (v := I (l3.getD s3 0)) rfl) ?_
  refine t_gcall (!((decide ((l3.getD s3 0) < 0)) || (decide ((r3.length : Int) ≤ (l3.getD s3 0))))) (gy_f rfl) cf45 (B (l2.contains (l3.getD s3 0))) (fun _ => [u25z, I (l3.getD s3 0)]) (fun hg => lst2 (gd_of (c := !((decide ((l3.getD s3 0) < 0)) || (decide ((r3.length : Int) ≤ (l3.getD s3 0))))) hg (u25z)) (gd_of (c := !((decide ((l3.getD s3 0) < 0)) || (decide ((r3.length : Int) ≤ (l3.getD s3 0))))) hg (I (l3.getD s3 0)))) H (fun hg => Ret.mono (contains_int (l3.getD s3 0) _ (hs26z.mono (roLe _ (H.get (k := 1) rfl)))) fun v_ w_ ⟨hv_, hx_⟩ => ⟨hv_, H.ext hx_⟩) ?_
  intro w98z H
  refine g_val (!((decide ((l3.getD s3 0) < 0)) || (decide ((r3.length : Int) ≤ (l3.getD s3 0))))) (gy_f rfl) (fun hg => x_not (b := l2.contains (l3.getD s3 0)) (gd_of (c := !((decide ((l3.getD s3 0) < 0)) || (decide ((r3.length : Int) ≤ (l3.getD s3 0))))) hg (B (l2.contains (l3.getD s3 0))))) <| s_val (x_por (b := ((decide ((l3.getD s3 0) < 0)) || (decide ((r3.length : Int) ≤ (l3.getD s3 0))))) (r := !(l2.contains (l3.getD s3 0))) rfl rfl (fun hb => gd_of (c := !((decide ((l3.getD s3 0) < 0)) || (decide ((r3.length : Int) ≤ (l3.getD s3 0))))) (by simp_all) (B (!(l2.contains (l3.getD s3 0)))))) <| s_nil ?_
  refine W.cond (((decide ((l3.getD s3 0) < 0)) || (decide ((r3.length : Int) ≤ (l3.getD s3 0)))) || (!(l2.contains (l3.getD s3 0)))) rfl (fun c99z => ?_) (fun c99z => ?_)
  ·replace hM := M.e_t hM c99z
   refine sQ rfl <| sA (B false) rfl <| s_nil ?_
   refine W.ret ?_
   have hX100z := M.e_inr hM hN94z
   subst hX100z
   replace hM := hk87z
   try dsimp only at hM
   have hr_ := M.e_pure hM
   exact ⟨_, resE_tmp rfl, ⟨false, hr_, rfl, (H.pick [] (by decide) rfl)⟩⟩
  replace hM := M.e_f hM c99z
  refine W.skip <| W.region rfl <| sM (I sum) rfl <| sM u0_3 rfl <| sM (I (l3.getD s3 0)) rfl ?_
  obtain ⟨sd101z, hM⟩ := M.e_gd hM
  refine s_val (x_ix (a := u0_3) (b := I (l3.getD s3 0)) (v := vat u0_3 3 (Int.toNat (l3.getD s3 0))) rfl rfl (Sl.ix (α := Work) T22.und T22.size (rowSl rfl (H.get (k := 5) rfl) (roLe _ (H.get (k := 6) rfl)) hf13z) (by omega) (by omega))) <| s_val (x_fa (a := vat u0_3 3 (Int.toNat (l3.getD s3 0))) (v := fat (vat u0_3 3 (Int.toNat (l3.getD s3 0))) 2) rfl (fa_pl Fd60_2 Sz3 (Sl.pl (i := l3.getD s3 0) (rowSl rfl (H.get (k := 5) rfl) (roLe _ (H.get (k := 6) rfl)) hf13z) (by omega) (by omega)))) <| s_val (x_ld (p := fat (vat u0_3 3 (Int.toNat (l3.getD s3 0))) 2) (v := I ((r3.getD (Int.toNat (l3.getD s3 0)) default).minutes)) rfl (ld_sc Sc3 (At.mono (Work_at2 (rowSl rfl (H.get (k := 5) rfl) (roLe _ (H.get (k := 6) rfl)) hf13z) (i := l3.getD s3 0) (by omega) (by omega)) (Cells.sup_le (ownLe _ (H.get (k := 5) rfl)) (roLe _ (H.get (k := 6) rfl)))))) ?_
  obtain ⟨sd102z, hM⟩ := M.e_gd hM
  refine sR sum ((r3.getD (Int.toNat (l3.getD s3 0)) default).minutes) (sum + ((r3.getD (Int.toNat (l3.getD s3 0)) default).minutes)) rfl rfl rfl (by omega) <| sA (I (sum + ((r3.getD (Int.toNat (l3.getD s3 0)) default).minutes))) rfl <| s_nil <| W.region rfl <| sR (s3 : Int) 1 ((s3 : Int) + 1) rfl rfl rfl (by omega) <| sM (I ((s3 : Int) + 1)) rfl <| s_nil ?_
  exact ⟨m91z, lt92z, sum + ((r3.getD (Int.toNat (l3.getD s3 0)) default).minutes), s3 + 1, _, upds_of _ _ ⟨rfl, rfl, rfl, rfl, rfl, rfl, rfl, rfl, rfl, rfl, rfl, rfl, rfl, trivial⟩, M.e_inl hM hN94z, H⟩
 replace hM := M.e_f hM c95z
 simp only [qz1, qz2, qz3, qz4, qz5, qz6, ne_eq, qz7] at c95z
 refine W.exit ?_
 have hX103z := M.e_inr hM hN94z
 subst hX103z
 replace hM := hk87z
 try dsimp only at hM
 refine sQ rfl <| sM u0_3 rfl <| sM u31z rfl ?_
 obtain ⟨r105z, hx104z, hM⟩ := M.e_bind hM
 refine s_call cf51 [u0_3, u31z] rfl (notes_Leads_ok r3 l3 (Reads.sup (Reads.of (k := 5) rfl ownLe) (Reads.of (k := 6) rfl roLe)) (rowSl rfl (H.get (k := 5) rfl) (roLe _ (H.get (k := 6) rfl)) hf13z) (Reads.of (k := 0) rfl roLe) hs32z hx104z _ (St.give (T := [cRo Bs_9, cRo Bs_8, cRo Bs_7, cOwn (α := Int) 3 u0_6 r4, cBlk nb0_1 [v_numbers, I q12, I q22] 158, cOwn (α := Raw 2) 60 u0_3 rr1_4, cRo Bs2_5, cBlk nb0_2 [v_tries, I r12, I r22] 158]) H rfl)) ?_
 rintro vq w106z ⟨r0, r13, hr107z, hvq, H2_⟩
 subst hr107z
 subst vq
 try dsimp only at hM
 replace H : St w w106z [cRo Bs_9, cRo Bs_8, cRo Bs_7, cOwn (α := Int) 3 u0_6 r4, cBlk nb0_1 [v_numbers, I q12, I q22] 158, cOwn (α := Raw 2) 60 u0_3 rr1_4, cRo Bs2_5, cBlk nb0_2 [v_tries, I r12, I r22] 158] R := H.back H2_ rfl
 clear H2_
 refine sM (.tuple #[B r0, I r13]) rfl <| sX [B r0, I r13] (B r0) rfl rfl <| sX [B r0, I r13] (I r13) rfl rfl <| sA (B r0) rfl <| sA (I r13) rfl <| s_nil <| W.seq <| sQ rfl <| sM (I r13) rfl <| sC r13 0 (r13 != 0) rfl rfl rfl <| sM (B (r13 != 0)) rfl ?_
 refine g_val (!(r13 != 0)) (gy_f rfl) (fun hg => x_mv (v := B r0) rfl) <| g_val (!(r13 != 0)) (gy_f rfl) (fun hg => x_not (b := r0) (gd_of (c := !(r13 != 0)) hg (B r0))) <| s_val (x_por (b := r13 != 0) (r := !r0) rfl rfl (fun hb => gd_of (c := !(r13 != 0)) (by simp_all) (B (!r0)))) <| sM (B ((r13 != 0) || (!r0))) rfl <| g_val (!((r13 != 0) || (!r0))) (gy_f rfl) (fun hg => x_mv (v := I sum) rfl) <| g_val (!((r13 != 0) || (!r0))) (gy_f rfl) (fun hg => x_mv (v := I most) rfl) <| g_val (!((r13 != 0) || (!r0))) (gy_f rfl) (fun hg => x_cmp (kd := .i64) (a := sum) (b := most) (r := sum != most) (gd_of (c := !((r13 != 0) || (!r0))) hg (I sum)) (gd_of (c := !((r13 != 0) || (!r0))) hg (I most)) rfl) <| s_val (x_por (b := ((r13 != 0) || (!r0))) (r := sum != most) rfl rfl (fun hb => gd_of (c := !((r13 != 0) || (!r0))) (by simp_all) (B (sum != most)))) <| s_nil ?_
 refine W.cond (((r13 != 0) || (!r0)) || (sum != most)) rfl (fun c108z => ?_) (fun c108z => ?_)
 ·replace hM := M.e_t hM c108z
  refine sQ rfl <| sA (B false) rfl <| s_nil ?_
  refine W.ret ?_
  have hr_ := M.e_pure hM
  exact ⟨_, resE_tmp rfl, ⟨false, hr_, rfl, (H.pick [] (by decide) rfl)⟩⟩
 replace hM := M.e_f hM c108z
 refine W.skip <| sQ rfl <| sM u25z rfl <| sM (Pz nb0_2) rfl <| sM u25z rfl ?_
 have hl109z := (hs26z).len_le
 refine s_val (x_lenS T34.und rfl hs26z) ?_
 obtain ⟨r111z, hx110z, hM⟩ := M.e_bind hM
 refine s_call cf44 [Pz nb0_2, I (l2.length : Int)] rfl (nilometerkit_Stream_Next_ok tries r12 r22 (l2.length : Int) (hC_tries.app _) hs_tries hx110z _ (St.give (L := [cBlk nb0_2 [v_tries, I r12, I r22] 158, cRo Bs_9, cRo Bs_8, cRo Bs_7, cOwn (α := Int) 3 u0_6 r4, cBlk nb0_1 [v_numbers, I q12, I q22] 158, cOwn (α := Raw 2) 60 u0_3 rr1_4, cRo Bs2_5]) (A := [cBlk nb0_2 [v_tries, I r12, I r22] 158]) (T := [cRo Bs_9, cRo Bs_8, cRo Bs_7, cOwn (α := Int) 3 u0_6 r4, cBlk nb0_1 [v_numbers, I q12, I q22] 158, cOwn (α := Raw 2) 60 u0_3 rr1_4, cRo Bs2_5]) (H.pick [7, 0, 1, 2, 3, 4, 5, 6] (by decide) rfl) rfl)) ?_
 rintro vq w112z ⟨r5, q13, q23, hr113z, hvq, H2_⟩
 subst hr113z
 subst vq
 try dsimp only at hM
 replace H : St w w112z [cBlk nb0_2 [v_tries, I q13, I q23] 158, cRo Bs_9, cRo Bs_8, cRo Bs_7, cOwn (α := Int) 3 u0_6 r4, cBlk nb0_1 [v_numbers, I q12, I q22] 158, cOwn (α := Raw 2) 60 u0_3 rr1_4, cRo Bs2_5] R := H.pick [7, 0, 1, 2, 3, 4, 5, 6] (by decide) rfl |>.back H2_ rfl
 clear H2_
 obtain ⟨sd114z, hM⟩ := M.e_gd hM
 refine s_val (x_ix (a := u25z) (b := I r5) (v := vat u25z 1 (Int.toNat r5)) rfl rfl (Sl.ix (α := Int) T34.und T34.size hs26z (by omega) (by omega))) <| s_val (x_ld (p := vat u25z 1 (Int.toNat r5)) (v := I (l2.getD (Int.toNat r5) 0)) rfl (ld_sc Sc3 (At.mono (Int_at hs26z (i := r5) (by omega) (by omega)) (roLe _ (H.get (k := 2) rfl))))) <| sA (I (l2.getD (Int.toNat r5) 0)) rfl <| sA (I 0) rfl <| s_nil <| W.seq <| W.block ?_
 obtain ⟨ex115z, hi116z, hk117z⟩ := M.e_bind hM
 obtain ⟨m0_, hi116z⟩ := M.e_iter hi116z
 refine W.loop (fun m σ W => ∃ (s9 : Int) (s10 : Int) (s11 : Int) (all : Int) (ρ : Env), σ = upds ρ [(2, .int .u8 which), (3, .int .u8 longer), (10, Pz nb0_2), (11, u0_3), (12, u0_6), (13, u19z), (19, I most), (29, I s11), (30, I all)] ∧ M.iterN (m_nilometerlaw13_NotesReady_b6 tries r3) m (s9, s10, s11, all) = some ex115z ∧ St w W [cBlk nb0_2 [v_tries, I s9, I s10] 158, cRo Bs_9, cRo Bs_8, cRo Bs_7, cOwn (α := Int) 3 u0_6 r4, cBlk nb0_1 [v_numbers, I q12, I q22] 158, cOwn (α := Raw 2) 60 u0_3 rr1_4, cRo Bs2_5] R) ?_ ?_
 ·exact ⟨_, q13, q23, l2.getD (Int.toNat r5) 0, 0, _, upds_of _ _ ⟨rfl, rfl, rfl, rfl, rfl, rfl, rfl, rfl, rfl, trivial⟩, hi116z, H⟩
 rintro m120z σ w118z ⟨s9, s10, s11, all, ρ, rfl, hI119z, H⟩
 obtain ⟨m121z, lt122z, x123z, hM, hN124z⟩ := M.e_iterN hI119z
 simp only [m_nilometerlaw13_NotesReady_b6] at hM
 clear hI119z
 refine W.seq <| sQ rfl <| sM (I s11) rfl <| sC s11 0 (decide (0 ≤ s11)) rfl rfl rfl <| s_nil ?_
 refine W.cond (decide (0 ≤ s11)) rfl (fun c125z => ?_) (fun c125z => ?_)
 ·replace hM := M.e_t hM c125z
  simp only [qz1, qz2, qz3, qz4, qz5, qz6, ne_eq, qz7] at c125z
  refine W.skip <| W.block <| sQ rfl <| sM (I all) rfl <| sM u0_3 rfl <| sM (I s11) rfl ?_
  obtain ⟨sd126z, hM⟩ := M.e_gd hM
  refine s_val (x_ix (a := u0_3) (b := I s11) (v := vat u0_3 3 (Int.toNat s11)) rfl rfl (Sl.ix (α := Work) T22.und T22.size (rowSl rfl (H.get (k := 6) rfl) (roLe _ (H.get (k := 7) rfl)) hf13z) (by omega) (by omega))) <| s_val (x_fa (a := vat u0_3 3 (Int.toNat s11)) (v := fat (vat u0_3 3 (Int.toNat s11)) 2) rfl (fa_pl Fd60_2 Sz3 (Sl.pl (i := s11) (rowSl rfl (H.get (k := 6) rfl) (roLe _ (H.get (k := 7) rfl)) hf13z) (by omega) (by omega)))) <| s_val (x_ld (p := fat (vat u0_3 3 (Int.toNat s11)) 2) (v := I ((r3.getD (Int.toNat s11) default).minutes)) rfl (ld_sc Sc3 (At.mono (Work_at2 (rowSl rfl (H.get (k := 6) rfl) (roLe _ (H.get (k := 7) rfl)) hf13z) (i := s11) (by omega) (by omega)) (Cells.sup_le (ownLe _ (H.get (k := 6) rfl)) (roLe _ (H.get (k := 7) rfl)))))) ?_
  obtain ⟨sd127z, hM⟩ := M.e_gd hM
  refine sR all ((r3.getD (Int.toNat s11) default).minutes) (all + ((r3.getD (Int.toNat s11) default).minutes)) rfl rfl rfl (by omega) <| sA (I (all + ((r3.getD (Int.toNat s11) default).minutes))) rfl <| s_nil <| sQ rfl <| sA (I (-1)) rfl <| s_nil <| W.seq <| sQ rfl <| sM u0_3 rfl ?_
  have hl128z := ((rowSl rfl (H.get (k := 6) rfl) (roLe _ (H.get (k := 7) rfl)) hf13z)).len_le
  refine s_val (x_lenS T22.und rfl (rowSl rfl (H.get (k := 6) rfl) (roLe _ (H.get (k := 7) rfl)) hf13z)) <| sM (I 0) rfl <| s_nil <| W.block ?_
  obtain ⟨ex129z, hi130z, hk131z⟩ := M.e_bind hM
  obtain ⟨m0_, hi130z⟩ := M.e_iter hi130z
  refine W.loop (fun m σ W => ∃ (s4 : Int) (s5 : Int) (next : Int) (s6 : Nat) (ρ : Env), σ = upds ρ [(2, .int .u8 which), (3, .int .u8 longer), (10, Pz nb0_2), (11, u0_3), (12, u0_6), (13, u19z), (19, I most), (29, I s11), (30, I (all + ((r3.getD (Int.toNat s11) default).minutes))), (31, I next), (193, I (r3.length : Int)), (194, I (s6 : Int))] ∧ M.iterN (m_nilometerlaw13_NotesReady_b5 tries r3 s11) m (s4, s5, next, s6) = some ex129z ∧ St w W [cBlk nb0_2 [v_tries, I s4, I s5] 158, cRo Bs_9, cRo Bs_8, cRo Bs_7, cOwn (α := Int) 3 u0_6 r4, cBlk nb0_1 [v_numbers, I q12, I q22] 158, cOwn (α := Raw 2) 60 u0_3 rr1_4, cRo Bs2_5] R) ?_ ?_
  ·exact ⟨_, s9, s10, -1, 0, _, upds_of _ _ ⟨rfl, rfl, rfl, rfl, rfl, rfl, rfl, rfl, rfl, rfl, rfl, rfl, trivial⟩, hi130z, H⟩
  rintro m134z σ w132z ⟨s4, s5, next, s6, ρ, rfl, hI133z, H⟩
  obtain ⟨m135z, lt136z, x137z, hM, hN138z⟩ := M.e_iterN hI133z
  simp only [m_nilometerlaw13_NotesReady_b5] at hM
  clear hI133z
  refine sQ rfl <| sC (s6 : Int) (r3.length : Int) (decide ((s6 : Int) < (r3.length : Int))) rfl rfl rfl <| s_nil <| W.seq ?_
  refine W.cond (decide ((s6 : Int) < (r3.length : Int))) rfl (fun c139z => ?_) (fun c139z => ?_)
  ·replace hM := M.e_t hM c139z
   simp only [qz1, qz2, qz3, qz4, qz5, qz6, ne_eq, qz7] at c139z
   refine W.skip <| W.seq <| W.block <| sQ rfl <| sM (I (s6 : Int)) rfl <| sA (I (s6 : Int)) rfl <| s_nil <| sQ rfl <| sM u0_3 rfl <| sM (I (s6 : Int)) rfl ?_
   obtain ⟨sd140z, hM⟩ := M.e_gd hM
   refine s_val (x_ix (a := u0_3) (b := I (s6 : Int)) (v := vat u0_3 3 (Int.toNat (s6 : Int))) rfl rfl (Sl.ix (α := Work) T22.und T22.size (rowSl rfl (H.get (k := 6) rfl) (roLe _ (H.get (k := 7) rfl)) hf13z) (by omega) (by omega))) <| s_val (x_fa (a := vat u0_3 3 (Int.toNat (s6 : Int))) (v := fat (vat u0_3 3 (Int.toNat (s6 : Int))) 0) rfl (fa_pl Fd60_0 Sz34 (Sl.pl (i := (s6 : Int)) (rowSl rfl (H.get (k := 6) rfl) (roLe _ (H.get (k := 7) rfl)) hf13z) (by omega) (by omega)))) ?_
   obtain ⟨u141z, ha_u141z, hs142z⟩ := Work_at0 (rowSl rfl (H.get (k := 6) rfl) (roLe _ (H.get (k := 7) rfl)) hf13z) (i := (s6 : Int)) (by omega) (by omega)
   replace hs142z : Sl _ u141z (r3.getD s6 default).of := hs142z
   have hl_hs142z := hs142z.len_le
   refine s_val (x_ld (p := fat (vat u0_3 3 (Int.toNat (s6 : Int))) 0) (v := u141z) rfl (ld_sc Sc34 (At.mono (ha_u141z) (Cells.sup_le (ownLe _ (H.get (k := 6) rfl)) (roLe _ (H.get (k := 7) rfl)))))) <| sM (I s11) rfl ?_
   refine s_call cf45 [u141z, I s11] rfl (contains_int s11 _ (hs142z.mono (Cells.sup_le (ownLe _ (H.get (k := 6) rfl)) (roLe _ (H.get (k := 7) rfl))))) ?_
   rintro _ w143z ⟨rfl, hx_⟩
   replace H : St w w143z [cBlk nb0_2 [v_tries, I s4, I s5] 158, cRo Bs_9, cRo Bs_8, cRo Bs_7, cOwn (α := Int) 3 u0_6 r4, cBlk nb0_1 [v_numbers, I q12, I q22] 158, cOwn (α := Raw 2) 60 u0_3 rr1_4, cRo Bs2_5] R := H.ext hx_
   clear hx_
   refine sM (B (((r3.getD s6 default).of).contains s11)) rfl <| g_val (((r3.getD s6 default).of).contains s11) (gy_t rfl) (fun hg => x_mv (v := I next) rfl) <| g_val (((r3.getD s6 default).of).contains s11) (gy_t rfl) (fun hg => x_cmp (kd := .i64) (a := next) (b := 0) (r := decide (next < 0)) (gd_of (c := ((r3.getD s6 default).of).contains s11) hg (I next)) rfl rfl) <| g_val (((r3.getD s6 default).of).contains s11) (gy_t rfl) (fun hg => x_mv (v := B (decide (next < 0))) (gd_of (c := ((r3.getD s6 default).of).contains s11) hg (B (decide (next < 0))))) <| g_val ((((r3.getD s6 default).of).contains s11) && !(decide (next < 0))) (gy_gf rfl rfl) (fun hg => x_mv (v := Pz nb0_2) rfl) ?_
   refine g_splitV ((((r3.getD s6 default).of).contains s11) && !(decide (next < 0))) (I 0) (gy_gf rfl rfl) (fun hg_ => ?_) (fun hg_ => ?_)
   ·replace hM := M.e_t hM hg_
    obtain ⟨r145z, hx144z, hM⟩ := M.e_bind hM
    refine s_call cf44 [Pz nb0_2, I 2] (lst2 (gd_of (c := ((((r3.getD s6 default).of).contains s11) && !(decide (next < 0)))) hg_ (Pz nb0_2)) rfl) (nilometerkit_Stream_Next_ok tries s4 s5 2 (hC_tries.app _) hs_tries hx144z _ (St.give (T := [cRo Bs_9, cRo Bs_8, cRo Bs_7, cOwn (α := Int) 3 u0_6 r4, cBlk nb0_1 [v_numbers, I q12, I q22] 158, cOwn (α := Raw 2) 60 u0_3 rr1_4, cRo Bs2_5]) H rfl)) ?_
    rintro vq w146z ⟨r21, q115, q215, hr147z, hvq, H2_⟩
    subst hr147z
    subst vq
    try dsimp only at hM
    replace H : St w w146z [cBlk nb0_2 [v_tries, I q115, I q215] 158, cRo Bs_9, cRo Bs_8, cRo Bs_7, cOwn (α := Int) 3 u0_6 r4, cBlk nb0_1 [v_numbers, I q12, I q22] 158, cOwn (α := Raw 2) 60 u0_3 rr1_4, cRo Bs2_5] R := H.back H2_ rfl
    clear H2_
    refine g_val ((((r3.getD s6 default).of).contains s11) && !(decide (next < 0))) (gy_gf rfl rfl) (fun hg => x_cmp (kd := .i64) (a := r21) (b := 0) (r := r21 == 0) rfl rfl rfl) <| g_val (((r3.getD s6 default).of).contains s11) (gy_t rfl) (fun hg => x_por (b := decide (next < 0)) (r := r21 == 0) (gd_of (c := ((r3.getD s6 default).of).contains s11) hg (B (decide (next < 0)))) rfl (fun hb => gd_of (c := ((((r3.getD s6 default).of).contains s11) && !(decide (next < 0)))) (by simp_all) (B (r21 == 0)))) <| s_val (x_pand (b := ((r3.getD s6 default).of).contains s11) (r := ((decide (next < 0)) || (r21 == 0))) rfl (fun hb => gd_of (c := ((r3.getD s6 default).of).contains s11) (by simp_all) (B ((decide (next < 0)) || (r21 == 0)))) rfl) <| s_nil ?_
    refine W.cond ((((r3.getD s6 default).of).contains s11) && ((decide (next < 0)) || (r21 == 0))) rfl (fun c148z => ?_) (fun c148z => ?_)
    ·replace hM := M.e_t hM c148z
     refine W.region rfl <| sM (I (s6 : Int)) rfl <| sA (I (s6 : Int)) rfl <| s_nil <| W.region rfl <| sR (s6 : Int) 1 ((s6 : Int) + 1) rfl rfl rfl (by omega) <| sM (I ((s6 : Int) + 1)) rfl <| s_nil ?_
     exact ⟨m135z, lt136z, q115, q215, (s6 : Int), s6 + 1, _, upds_of _ _ ⟨rfl, rfl, rfl, rfl, rfl, rfl, rfl, rfl, rfl, rfl, rfl, rfl, trivial⟩, M.e_inl hM hN138z, H⟩
    replace hM := M.e_f hM c148z
    refine W.skip <| W.region rfl <| sR (s6 : Int) 1 ((s6 : Int) + 1) rfl rfl rfl (by omega) <| sM (I ((s6 : Int) + 1)) rfl <| s_nil ?_
    exact ⟨m135z, lt136z, q115, q215, next, s6 + 1, _, upds_of _ _ ⟨rfl, rfl, rfl, rfl, rfl, rfl, rfl, rfl, rfl, rfl, rfl, rfl, trivial⟩, M.e_inl hM hN138z, H⟩
   replace hM := M.e_f hM hg_
   refine g_val ((((r3.getD s6 default).of).contains s11) && !(decide (next < 0))) (gy_gf rfl rfl) (fun hg => x_cmp (kd := .i64) (a := 0) (b := 0) (r := (0 : Int) == 0) (gd_of (c := ((((r3.getD s6 default).of).contains s11) && !(decide (next < 0)))) hg (I 0)) rfl rfl) <| g_val (((r3.getD s6 default).of).contains s11) (gy_t rfl) (fun hg => x_por (b := decide (next < 0)) (r := (0 : Int) == 0) (gd_of (c := ((r3.getD s6 default).of).contains s11) hg (B (decide (next < 0)))) rfl (fun hb => gd_of (c := ((((r3.getD s6 default).of).contains s11) && !(decide (next < 0)))) (by simp_all) (B ((0 : Int) == 0)))) <| s_val (x_pand (b := ((r3.getD s6 default).of).contains s11) (r := ((decide (next < 0)) || ((0 : Int) == 0))) rfl (fun hb => gd_of (c := ((r3.getD s6 default).of).contains s11) (by simp_all) (B ((decide (next < 0)) || ((0 : Int) == 0)))) rfl) <| s_nil ?_
   refine W.cond ((((r3.getD s6 default).of).contains s11) && ((decide (next < 0)) || ((0 : Int) == 0))) rfl (fun c149z => ?_) (fun c149z => ?_)
   ·replace hM := M.e_t hM c149z
    refine W.region rfl <| sM (I (s6 : Int)) rfl <| sA (I (s6 : Int)) rfl <| s_nil <| W.region rfl <| sR (s6 : Int) 1 ((s6 : Int) + 1) rfl rfl rfl (by omega) <| sM (I ((s6 : Int) + 1)) rfl <| s_nil ?_
    exact ⟨m135z, lt136z, s4, s5, (s6 : Int), s6 + 1, _, upds_of _ _ ⟨rfl, rfl, rfl, rfl, rfl, rfl, rfl, rfl, rfl, rfl, rfl, rfl, trivial⟩, M.e_inl hM hN138z, H⟩
   replace hM := M.e_f hM c149z
   refine W.skip <| W.region rfl <| sR (s6 : Int) 1 ((s6 : Int) + 1) rfl rfl rfl (by omega) <| sM (I ((s6 : Int) + 1)) rfl <| s_nil ?_
   exact ⟨m135z, lt136z, s4, s5, next, s6 + 1, _, upds_of _ _ ⟨rfl, rfl, rfl, rfl, rfl, rfl, rfl, rfl, rfl, rfl, rfl, rfl, trivial⟩, M.e_inl hM hN138z, H⟩
  replace hM := M.e_f hM c139z
  simp only [qz1, qz2, qz3, qz4, qz5, qz6, ne_eq, qz7] at c139z
  refine W.exit ?_
  have hX150z := M.e_inr hM hN138z
  subst hX150z
  replace hM := hk131z
  try dsimp only at hM
  refine W.region rfl <| sM (I next) rfl <| sA (I next) rfl <| s_nil ?_
  exact ⟨m121z, lt122z, s4, s5, next, all + ((r3.getD (Int.toNat s11) default).minutes), _, upds_of _ _ ⟨rfl, rfl, rfl, rfl, rfl, rfl, rfl, rfl, rfl, trivial⟩, M.e_inl hM hN124z, H⟩
 replace hM := M.e_f hM c125z
 simp only [qz1, qz2, qz3, qz4, qz5, qz6, ne_eq, qz7] at c125z
 refine W.exit ?_
 have hX151z := M.e_inr hM hN124z
 subst hX151z
 replace hM := hk117z
 try dsimp only at hM
 refine W.seq <| sQ rfl <| sM (I all) rfl <| sM (I most) rfl <| sC all most (decide (most < all)) rfl rfl rfl <| s_nil ?_
 refine W.cond (decide (most < all)) rfl (fun c152z => ?_) (fun c152z => ?_)
 ·replace hM := M.e_t hM c152z
  simp only [qz1, qz2, qz3, qz4, qz5, qz6, ne_eq, qz7] at c152z
  refine sQ rfl <| sA (B false) rfl <| s_nil ?_
  refine W.ret ?_
  have hr_ := M.e_pure hM
  exact ⟨_, resE_tmp rfl, ⟨false, hr_, rfl, (H.pick [] (by decide) rfl)⟩⟩
 replace hM := M.e_f hM c152z
 simp only [qz1, qz2, qz3, qz4, qz5, qz6, ne_eq, qz7] at c152z
 refine W.skip <| sQ rfl <| sM u0_3 rfl ?_
 obtain ⟨Bs_11, H, hs153z⟩ := H.freezeE (k := 6) rfl
 obtain ⟨Bs_12, H, le154z, le155z⟩ := H.joinE (i := 6) (j := 7) rfl rfl
 have hs156z := unraw (α := Work) rfl (hs153z.mono le154z) (hf13z.mono le155z)
 replace H : St w w118z [cRo Bs_12, cBlk nb0_2 [v_tries, I s9, I s10] 158, cRo Bs_9, cRo Bs_8, cRo Bs_7, cOwn (α := Int) 3 u0_6 r4, cBlk nb0_1 [v_numbers, I q12, I q22] 158, cRo Bs_11, cRo Bs2_5] R := H
 obtain ⟨r158z, hx157z, hM⟩ := M.e_bind hM
 refine s_call cf18 [u0_3] rfl (nilometerlaw13_CopyWorks_ok r3 (Reads.of (k := 0) rfl roLe) hs156z hx157z _ (St.give (T := [cRo Bs_12, cBlk nb0_2 [v_tries, I s9, I s10] 158, cRo Bs_9, cRo Bs_8, cRo Bs_7, cOwn (α := Int) 3 u0_6 r4, cBlk nb0_1 [v_numbers, I q12, I q22] 158, cRo Bs_11, cRo Bs2_5]) H rfl)) ?_
 rintro vq w159z ⟨r15, u0_13, rr1_14, Bs2_15, hr160z, hvq, H2_, hf161z⟩
 subst hr160z
 subst vq
 try dsimp only at hM
 replace H : St w w159z [cOwn (α := Raw 2) 60 u0_13 rr1_14, cRo Bs2_15, cRo Bs_12, cBlk nb0_2 [v_tries, I s9, I s10] 158, cRo Bs_9, cRo Bs_8, cRo Bs_7, cOwn (α := Int) 3 u0_6 r4, cBlk nb0_1 [v_numbers, I q12, I q22] 158, cRo Bs_11, cRo Bs2_5] R := H.back H2_ rfl
 clear H2_
 obtain ⟨Bs_16, H, le162z, le163z⟩ := H.joinE (i := 2) (j := 1) rfl rfl
 replace hf161z := hf161z.mono (Cells.sup_le le162z le163z)
 replace H : St w w159z [cRo Bs_16, cOwn (α := Raw 2) 60 u0_13 rr1_14, cRo Bs2_15, cRo Bs_12, cBlk nb0_2 [v_tries, I s9, I s10] 158, cRo Bs_9, cRo Bs_8, cRo Bs_7, cOwn (α := Int) 3 u0_6 r4, cBlk nb0_1 [v_numbers, I q12, I q22] 158, cRo Bs_11, cRo Bs2_5] R := H
 refine sA u0_13 rfl <| s_nil <| sQ rfl <| sM u0_13 rfl <| sM (.int .u8 which) rfl ?_
 obtain ⟨sd164z, hM⟩ := M.e_gd hM
 refine s_val (x_conv64 (kd := .u8) (a := which) Try.underlying5 Try.underlying3 rfl (by omega)) <| sM u0_3 rfl ?_
 have hl165z := (hs156z).len_le
 refine s_val (x_lenS T22.und rfl hs156z) ?_
 obtain ⟨sd166z, hM⟩ := M.e_gd hM
 refine s_val (x_rem' (a := which) (b := (r3.length : Int)) rfl rfl (by omega)) ?_
 obtain ⟨sd167z, hM⟩ := M.e_gd hM
 refine s_val (x_ix (a := u0_13) (b := I (which % (r3.length : Int))) (v := vat u0_13 3 (Int.toNat (which % (r3.length : Int)))) rfl rfl (Sl.ix (α := Work) T22.und T22.size (rowSl rfl (H.get (k := 1) rfl) (roLe _ (H.get (k := 0) rfl)) hf161z) (by omega) (by omega))) <| s_val (x_fa (a := vat u0_13 3 (Int.toNat (which % (r3.length : Int)))) (v := fat (vat u0_13 3 (Int.toNat (which % (r3.length : Int)))) 2) rfl (fa_pl Fd60_2 Sz3 (Sl.pl (i := which % (r3.length : Int)) (rowSl rfl (H.get (k := 1) rfl) (roLe _ (H.get (k := 0) rfl)) hf161z) (by omega) (by omega)))) <| s_val (x_ld (p := fat (vat u0_13 3 (Int.toNat (which % (r3.length : Int)))) 2) (v := I ((r15.getD (Int.toNat (which % (r3.length : Int))) default).minutes)) rfl (ld_sc Sc3 (At.mono (Work_at2 (rowSl rfl (H.get (k := 1) rfl) (roLe _ (H.get (k := 0) rfl)) hf161z) (i := which % (r3.length : Int)) (by omega) (by omega)) (Cells.sup_le (ownLe _ (H.get (k := 1) rfl)) (roLe _ (H.get (k := 0) rfl)))))) <| sM (.int .u8 longer) rfl ?_
 obtain ⟨sd168z, hM⟩ := M.e_gd hM
 refine s_val (x_conv64 (kd := .u8) (a := longer) Try.underlying5 Try.underlying3 rfl (by omega)) ?_
 obtain ⟨sd169z, hM⟩ := M.e_gd hM
 refine sR ((r15.getD (Int.toNat (which % (r3.length : Int))) default).minutes) longer (((r15.getD (Int.toNat (which % (r3.length : Int))) default).minutes) + longer) rfl rfl rfl (by omega) <| s_val (x_ix (a := u0_13) (b := I (which % (r3.length : Int))) (v := vat u0_13 3 (Int.toNat (which % (r3.length : Int)))) rfl rfl (Sl.ix (α := Work) T22.und T22.size (rowSl rfl (H.get (k := 1) rfl) (roLe _ (H.get (k := 0) rfl)) hf161z) (by omega) (by omega))) <| s_val (x_fa (a := vat u0_13 3 (Int.toNat (which % (r3.length : Int)))) (v := fat (vat u0_13 3 (Int.toNat (which % (r3.length : Int)))) 2) rfl (fa_pl Fd60_2 Sz3 (Sl.pl (i := which % (r3.length : Int)) (rowSl rfl (H.get (k := 1) rfl) (roLe _ (H.get (k := 0) rfl)) hf161z) (by omega) (by omega)))) ?_
 have hl174z := hf161z.len
 obtain ⟨rw171z, hw173z⟩ : ∃ r : List (Raw 2), (rr1_14).set (Int.toNat (which % (r3.length : Int))) (Raw.put ((rr1_14).getD (Int.toNat (which % (r3.length : Int))) default) 2 [I (((r15.getD (Int.toNat (which % (r3.length : Int))) default).minutes) + longer)] rfl rfl) = r := ⟨_, rfl⟩
 have hr172z : RepR (α := Work) Bs_16.cells rw171z (r15.set (Int.toNat (which % (r3.length : Int))) ({ (r15.getD (Int.toNat (which % (r3.length : Int))) default) with minutes := (((r15.getD (Int.toNat (which % (r3.length : Int))) default).minutes) + longer : Int) })) := by rw [← hw173z]; exact hf161z.set _ (by obtain ⟨sv_0, hc_, hv_0⟩ := hf161z.getD (k := (Int.toNat (which % (r3.length : Int)))) (by omega) default; show Elt.rep _ (((rr1_14).getD (Int.toNat (which % (r3.length : Int))) default).cs.take 2 ++ [I (((r15.getD (Int.toNat (which % (r3.length : Int))) default).minutes) + longer)] ++ ((rr1_14).getD (Int.toNat (which % (r3.length : Int))) default).cs.drop (2 + ([I (((r15.getD (Int.toNat (which % (r3.length : Int))) default).minutes) + longer)] : List Value).length)) _; rw [hc_]; exact ⟨_, rfl, hv_0⟩)
 refine t_fst (α := Raw 2) (k := 1) (i := which % (r3.length : Int)) (off := 2) (l := rr1_14) (l' := rw171z) (val := I (((r15.getD (Int.toNat (which % (r3.length : Int))) default).minutes) + longer)) (L' := [cRo Bs_16, cOwn (α := Raw 2) 60 u0_13 rw171z, cRo Bs2_15, cRo Bs_12, cBlk nb0_2 [v_tries, I s9, I s10] 158, cRo Bs_9, cRo Bs_8, cRo Bs_7, cOwn (α := Int) 3 u0_6 r4, cBlk nb0_1 [v_numbers, I q12, I q22] 158, cRo Bs_11, cRo Bs2_5]) H rfl Sz3 (by omega) (by omega) ((rr1_14).getD (Int.toNat (which % (r3.length : Int))) default) (Raw.put ((rr1_14).getD (Int.toNat (which % (r3.length : Int))) default) 2 [I (((r15.getD (Int.toNat (which % (r3.length : Int))) default).minutes) + longer)] rfl rfl) (getD_some _ (by omega) _) rfl rfl [I (((r15.getD (Int.toNat (which % (r3.length : Int))) default).minutes) + longer)] rfl rfl rfl rfl rfl hw173z rfl ?_
 intro w175z H
 refine s_nil <| sQ rfl <| sM u0_13 rfl <| sM u0_6 rfl ?_
 obtain ⟨⟨l4, e4⟩, hx179z, hM⟩ := M.e_bind hM
 obtain ⟨hq180z, hq181z⟩ := Prod.mk.inj (M.e_pure hx179z)
 try dsimp only at hM
 refine s_call cf36 [u0_13, u0_6] rfl (by have hc_ := (Ready_any _ ((rowSl rfl (H.get (k := 1) rfl) (roLe _ (H.get (k := 0) rfl)) hr172z).mono (Cells.sup_le (ownLe _ (H.get (k := 1) rfl)) (roLe _ (H.get (k := 0) rfl)))) ((ownSl (H.get (k := 8) rfl)).mono (ownLe _ (H.get (k := 8) rfl)))); rw [hq180z, hq181z] at hc_; exact hc_) ?_
 rintro _ w176z ⟨u177z, rfl, hs178z, hx_⟩
 obtain ⟨Bs_17, H, hs178z⟩ := H.fresh hx_ hs178z
 clear hx_
 have hl_hs178z := hs178z.len_le
 refine sM (.tuple #[u177z, I e4]) rfl <| sX [u177z, I e4] u177z rfl rfl <| sX [u177z, I e4] (I e4) rfl rfl <| sA u177z rfl <| sA (I e4) rfl <| s_nil <| W.seq <| sQ rfl <| sM (I e4) rfl <| sC e4 0 (e4 != 0) rfl rfl rfl <| sM (B (e4 != 0)) rfl ?_
 refine g_val (!(e4 != 0)) (gy_f rfl) (fun hg => x_mv (v := u177z) rfl) <| g_val (!(e4 != 0)) (gy_f rfl) (fun hg => x_lenS T34.und (gd_of (c := !(e4 != 0)) hg (u177z)) hs178z) <| g_val (!(e4 != 0)) (gy_f rfl) (fun hg => x_mv (v := u19z) rfl) <| g_val (!(e4 != 0)) (gy_f rfl) (fun hg => x_lenS T34.und (gd_of (c := !(e4 != 0)) hg (u19z)) hs20z) <| g_val (!(e4 != 0)) (gy_f rfl) (fun hg => x_cmp (kd := .i64) (a := (l4.length : Int)) (b := (l.length : Int)) (r := (l4.length : Int) != (l.length : Int)) (gd_of (c := !(e4 != 0)) hg (I (l4.length : Int))) (gd_of (c := !(e4 != 0)) hg (I (l.length : Int))) rfl) <| s_val (x_por (b := e4 != 0) (r := (l4.length : Int) != (l.length : Int)) rfl rfl (fun hb => gd_of (c := !(e4 != 0)) (by simp_all) (B ((l4.length : Int) != (l.length : Int))))) <| s_nil ?_
 refine W.cond ((e4 != 0) || ((l4.length : Int) != (l.length : Int))) rfl (fun c184z => ?_) (fun c184z => ?_)
 ·replace hM := M.e_t hM c184z
  refine sQ rfl <| sA (B false) rfl <| s_nil ?_
  refine W.ret ?_
  have hr_ := M.e_pure hM
  exact ⟨_, resE_tmp rfl, ⟨false, hr_, rfl, (H.pick [] (by decide) rfl)⟩⟩
 replace hM := M.e_f hM c184z
 refine W.skip <| W.seq <| sQ rfl <| sM u19z rfl ?_
 have hl185z := (hs20z).len_le
 refine s_val (x_lenS T34.und rfl hs20z) <| sM (I 0) rfl <| s_nil <| W.block ?_
 obtain ⟨ex186z, hi187z, hk188z⟩ := M.e_bind hM
 obtain ⟨m0_, hi187z⟩ := M.e_iter hi187z
 refine W.loop (fun m σ W => ∃ (s14 : Nat) (ρ : Env), σ = upds ρ [(3, .int .u8 longer), (13, u19z), (34, u177z), (251, I (l.length : Int)), (252, I (s14 : Int))] ∧ M.iterN (m_nilometerlaw13_NotesReady_b7 longer l l4) m s14 = some ex186z ∧ St w W [cRo Bs_17, cRo Bs_16, cOwn (α := Raw 2) 60 u0_13 rw171z, cRo Bs2_15, cRo Bs_12, cBlk nb0_2 [v_tries, I s9, I s10] 158, cRo Bs_9, cRo Bs_8, cRo Bs_7, cOwn (α := Int) 3 u0_6 r4, cBlk nb0_1 [v_numbers, I q12, I q22] 158, cRo Bs_11, cRo Bs2_5] R) ?_ ?_
 ·exact ⟨_, 0, _, upds_of _ _ ⟨rfl, rfl, rfl, rfl, rfl, trivial⟩, hi187z, H⟩
 rintro m191z σ w189z ⟨s14, ρ, rfl, hI190z, H⟩
 obtain ⟨m192z, lt193z, x194z, hM, hN195z⟩ := M.e_iterN hI190z
 simp only [m_nilometerlaw13_NotesReady_b7] at hM
 clear hI190z
 refine sQ rfl <| sC (s14 : Int) (l.length : Int) (decide ((s14 : Int) < (l.length : Int))) rfl rfl rfl <| s_nil <| W.seq ?_
 refine W.cond (decide ((s14 : Int) < (l.length : Int))) rfl (fun c196z => ?_) (fun c196z => ?_)
 ·replace hM := M.e_t hM c196z
  simp only [qz1, qz2, qz3, qz4, qz5, qz6, ne_eq, qz7] at c196z
  refine W.skip <| W.seq <| W.block <| sQ rfl <| sM (I (s14 : Int)) rfl <| sA (I (s14 : Int)) rfl <| s_nil <| W.seq ?_
  refine W.draw (fun W => St w W [cRo Bs_17, cRo Bs_16, cOwn (α := Raw 2) 60 u0_13 rw171z, cRo Bs2_15, cRo Bs_12, cBlk nb0_2 [v_tries, I s9, I s10] 158, cRo Bs_9, cRo Bs_8, cRo Bs_7, cOwn (α := Int) 3 u0_6 r4, cBlk nb0_1 [v_numbers, I q12, I q22] 158, cRo Bs_11, cRo Bs2_5] R) [(0, true), (1, true), (2, true), (3, true), (4, true), (5, true), (6, true), (7, true), (8, true), (9, true), (10, true), (11, true), (12, true), (13, true), (14, true), (15, true), (16, true), (17, true), (18, true), (19, true), (20, true), (21, true), (22, true)] mixed (by decide +kernel) rfl ?_
  intro w197z hx_
  replace H : St w w197z [cRo Bs_17, cRo Bs_16, cOwn (α := Raw 2) 60 u0_13 rw171z, cRo Bs2_15, cRo Bs_12, cBlk nb0_2 [v_tries, I s9, I s10] 158, cRo Bs_9, cRo Bs_8, cRo Bs_7, cOwn (α := Int) 3 u0_6 r4, cBlk nb0_1 [v_numbers, I q12, I q22] 158, cRo Bs_11, cRo Bs2_5] R := H.ext hx_
  clear hx_
  refine ⟨(H.pick [0, 1, 2, 3, 4, 5, 6, 7, 8, 9, 10, 11, 12] (by decide) rfl), ?_⟩
  refine d_q rfl (fun w' H => x_mv (v := u177z) rfl) ?_
  refine d_q rfl (fun w' H => x_mv (v := I (s14 : Int)) rfl) ?_
  obtain ⟨sd198z, hM⟩ := M.e_gd hM
  refine d_q rfl (fun w' H => x_ix (a := u177z) (b := I (s14 : Int)) (v := vat u177z 1 (Int.toNat (s14 : Int))) rfl rfl (Sl.ix (α := Int) T34.und T34.size hs178z (by omega) (by omega))) ?_
  refine d_q rfl (fun w' H => x_ld (p := vat u177z 1 (Int.toNat (s14 : Int))) (v := I (l4.getD s14 0)) rfl (ld_sc Sc3 (At.mono (Int_at hs178z (i := (s14 : Int)) (by omega) (by omega)) (roLe _ (H.get (k := 0) rfl))))) ?_
  refine d_q rfl (fun w' H => x_mv (v := u19z) rfl) ?_
  refine d_q rfl (fun w' H => x_mv (v := I (s14 : Int)) rfl) ?_
  refine d_q rfl (fun w' H => x_ix (a := u19z) (b := I (s14 : Int)) (v := vat u19z 1 (Int.toNat (s14 : Int))) rfl rfl (Sl.ix (α := Int) T34.und T34.size hs20z (by omega) (by omega))) ?_
  refine d_q rfl (fun w' H => x_ld (p := vat u19z 1 (Int.toNat (s14 : Int))) (v := I (l.getD s14 0)) rfl (ld_sc Sc3 (At.mono (Int_at hs20z (i := (s14 : Int)) (by omega) (by omega)) (roLe _ (H.get (k := 8) rfl))))) ?_
  refine d_q rfl (fun w' H => x_cmp (kd := .i64) (a := l4.getD s14 0) (b := l.getD s14 0) (r := decide ((l4.getD s14 0) < (l.getD s14 0))) rfl rfl rfl) ?_
  refine d_q rfl (fun w' H => x_mv (v := B (decide ((l4.getD s14 0) < (l.getD s14 0)))) rfl) ?_
  refine d_qg (!(decide ((l4.getD s14 0) < (l.getD s14 0)))) rfl (gy_f rfl) (fun hg => (fun w' H => x_mv (v := u177z) rfl)) ?_
  refine d_qg (!(decide ((l4.getD s14 0) < (l.getD s14 0)))) rfl (gy_f rfl) (fun hg => (fun w' H => x_mv (v := I (s14 : Int)) rfl)) ?_
  refine d_qg (!(decide ((l4.getD s14 0) < (l.getD s14 0)))) rfl (gy_f rfl) (fun hg => (fun w' H => x_ix (a := u177z) (b := I (s14 : Int)) (v := vat u177z 1 (Int.toNat (s14 : Int))) (gd_of (c := !(decide ((l4.getD s14 0) < (l.getD s14 0)))) hg (u177z)) (gd_of (c := !(decide ((l4.getD s14 0) < (l.getD s14 0)))) hg (I (s14 : Int))) (Sl.ix (α := Int) T34.und T34.size hs178z (by first | omega | (have hx_ := hg; simp at hx_; omega)) (by first | omega | (have hx_ := hg; simp at hx_; omega))))) ?_
  refine d_qg (!(decide ((l4.getD s14 0) < (l.getD s14 0)))) rfl (gy_f rfl) (fun hg => (fun w' H => x_ld (p := vat u177z 1 (Int.toNat (s14 : Int))) (v := I (l4.getD s14 0)) (gd_of (c := !(decide ((l4.getD s14 0) < (l.getD s14 0)))) hg (vat u177z 1 (Int.toNat (s14 : Int)))) (ld_sc Sc3 (At.mono (Int_at hs178z (i := (s14 : Int)) (by first | omega | (have hx_ := hg; simp at hx_; omega)) (by first | omega | (have hx_ := hg; simp at hx_; omega))) (roLe _ (H.get (k := 0) rfl)))))) ?_
  refine d_qg (!(decide ((l4.getD s14 0) < (l.getD s14 0)))) rfl (gy_f rfl) (fun hg => (fun w' H => x_mv (v := u19z) rfl)) ?_
  refine d_qg (!(decide ((l4.getD s14 0) < (l.getD s14 0)))) rfl (gy_f rfl) (fun hg => (fun w' H => x_mv (v := I (s14 : Int)) rfl)) ?_
  refine d_qg (!(decide ((l4.getD s14 0) < (l.getD s14 0)))) rfl (gy_f rfl) (fun hg => (fun w' H => x_ix (a := u19z) (b := I (s14 : Int)) (v := vat u19z 1 (Int.toNat (s14 : Int))) (gd_of (c := !(decide ((l4.getD s14 0) < (l.getD s14 0)))) hg (u19z)) (gd_of (c := !(decide ((l4.getD s14 0) < (l.getD s14 0)))) hg (I (s14 : Int))) (Sl.ix (α := Int) T34.und T34.size hs20z (by first | omega | (have hx_ := hg; simp at hx_; omega)) (by first | omega | (have hx_ := hg; simp at hx_; omega))))) ?_
  refine d_qg (!(decide ((l4.getD s14 0) < (l.getD s14 0)))) rfl (gy_f rfl) (fun hg => (fun w' H => x_ld (p := vat u19z 1 (Int.toNat (s14 : Int))) (v := I (l.getD s14 0)) (gd_of (c := !(decide ((l4.getD s14 0) < (l.getD s14 0)))) hg (vat u19z 1 (Int.toNat (s14 : Int)))) (ld_sc Sc3 (At.mono (Int_at hs20z (i := (s14 : Int)) (by first | omega | (have hx_ := hg; simp at hx_; omega)) (by first | omega | (have hx_ := hg; simp at hx_; omega))) (roLe _ (H.get (k := 8) rfl)))))) ?_
  refine d_qg (!(decide ((l4.getD s14 0) < (l.getD s14 0)))) rfl (gy_f rfl) (fun hg => (fun w' H => x_mv (v := .int .u8 longer) rfl)) ?_
  refine d_qg (!(decide ((l4.getD s14 0) < (l.getD s14 0)))) rfl (gy_f rfl) (fun hg => (fun w' H => x_conv64 (kd := .u8) (a := longer) Try.underlying5 Try.underlying3 (gd_of (c := !(decide ((l4.getD s14 0) < (l.getD s14 0)))) hg (.int .u8 longer)) (by first | omega | (have hx_ := hg; simp at hx_; omega)))) ?_
  obtain ⟨sd199z, hM⟩ := M.e_grd hM
  replace sd199z := M.imp_of sd199z
  simp only [Bool.and_eq_true, decide_eq_true_eq] at sd199z
  refine d_qg (!(decide ((l4.getD s14 0) < (l.getD s14 0)))) rfl (gy_f rfl) (fun hg => (fun w' H => x_ari (a := l.getD s14 0) (b := longer) (r := (l.getD s14 0) + longer) (gd_of (c := !(decide ((l4.getD s14 0) < (l.getD s14 0)))) hg (I (l.getD s14 0))) (gd_of (c := !(decide ((l4.getD s14 0) < (l.getD s14 0)))) hg (I longer)) rfl (by have h1_ := sd199z.resolve_left (by rw [hg]; decide); first | omega | (have hx_ := hg; simp at hx_; omega)))) ?_
  refine d_qg (!(decide ((l4.getD s14 0) < (l.getD s14 0)))) rfl (gy_f rfl) (fun hg => (fun w' H => x_cmp (kd := .i64) (a := l4.getD s14 0) (b := (l.getD s14 0) + longer) (r := decide (((l.getD s14 0) + longer) < (l4.getD s14 0))) (gd_of (c := !(decide ((l4.getD s14 0) < (l.getD s14 0)))) hg (I (l4.getD s14 0))) (gd_of (c := !(decide ((l4.getD s14 0) < (l.getD s14 0)))) hg (I ((l.getD s14 0) + longer))) rfl)) ?_
  refine d_q rfl (fun w' H => x_por (b := decide ((l4.getD s14 0) < (l.getD s14 0))) (r := decide (((l.getD s14 0) + longer) < (l4.getD s14 0))) rfl rfl (fun hb => gd_of (c := !(decide ((l4.getD s14 0) < (l.getD s14 0)))) (by simp_all) (B (decide (((l.getD s14 0) + longer) < (l4.getD s14 0)))))) ?_
  refine d_nil ?_
  refine W.cond ((decide ((l4.getD s14 0) < (l.getD s14 0))) || (decide (((l.getD s14 0) + longer) < (l4.getD s14 0)))) rfl (fun c200z => ?_) (fun c200z => ?_)
  ·replace hM := M.e_t hM c200z
   refine sQ rfl <| sA (B false) rfl <| s_nil ?_
   refine W.ret ?_
   have hX201z := M.e_inr hM hN195z
   subst hX201z
   replace hM := hk188z
   try dsimp only at hM
   have hr_ := M.e_pure hM
   exact ⟨_, resE_tmp rfl, ⟨false, hr_, rfl, (H.pick [] (by decide) rfl)⟩⟩
  replace hM := M.e_f hM c200z
  refine W.skip <| W.region rfl <| sR (s14 : Int) 1 ((s14 : Int) + 1) rfl rfl rfl (by omega) <| sM (I ((s14 : Int) + 1)) rfl <| s_nil ?_
  exact ⟨m192z, lt193z, s14 + 1, _, upds_of _ _ ⟨rfl, rfl, rfl, rfl, rfl, trivial⟩, M.e_inl hM hN195z, H⟩
 replace hM := M.e_f hM c196z
 simp only [qz1, qz2, qz3, qz4, qz5, qz6, ne_eq, qz7] at c196z
 refine W.exit ?_
 have hX202z := M.e_inr hM hN195z
 subst hX202z
 replace hM := hk188z
 try dsimp only at hM
 refine sQ rfl ?_
 obtain ⟨r204z, hx203z, hM⟩ := M.e_bind hM
 refine s_call cf17 [] rfl (nilometerlaw13_awake_ok hx203z _ (St.give (T := [cRo Bs_17, cRo Bs_16, cOwn (α := Raw 2) 60 u0_13 rw171z, cRo Bs2_15, cRo Bs_12, cBlk nb0_2 [v_tries, I s9, I s10] 158, cRo Bs_9, cRo Bs_8, cRo Bs_7, cOwn (α := Int) 3 u0_6 r4, cBlk nb0_1 [v_numbers, I q12, I q22] 158, cRo Bs_11, cRo Bs2_5]) H rfl)) ?_
 rintro vq w205z ⟨r16, hr206z, hvq, H2_⟩
 subst hr206z
 subst vq
 try dsimp only at hM
 replace H : St w w205z [cRo Bs_17, cRo Bs_16, cOwn (α := Raw 2) 60 u0_13 rw171z, cRo Bs2_15, cRo Bs_12, cBlk nb0_2 [v_tries, I s9, I s10] 158, cRo Bs_9, cRo Bs_8, cRo Bs_7, cOwn (α := Int) 3 u0_6 r4, cBlk nb0_1 [v_numbers, I q12, I q22] 158, cRo Bs_11, cRo Bs2_5] R := H.back H2_ rfl
 clear H2_
 refine sA (B r16) rfl <| s_nil ?_
 refine W.ret ?_
 have hr_ := M.e_pure hM
 exact ⟨_, resE_tmp rfl, ⟨r16, hr_, rfl, (H.pick [] (by decide) rfl)⟩⟩

end Go.Proofs.Ytndobgodeicloaa
end
namespace Go.Nm
variable {ws : List Work} {rv : List Int}
theorem begF_one (out l : List Int) {k : Int} (hk : k ∈ l) : out.getD k.toNat 0 ≤ begF out l := by
  unfold begF
  have key : ∀ (l : List Int) (b : Int), b ≤ l.foldl (fun b k => max b (out.getD k.toNat 0)) b ∧ ∀ k ∈ l, out.getD k.toNat 0 ≤ l.foldl (fun b k => max b (out.getD k.toNat 0)) b := by
    intro l
    induction l with
    | nil => intro b; exact ⟨Int.le_refl _, fun k h => by simp at h⟩
    | cons a l ih =>
      intro b
      simp only [List.foldl_cons]
      obtain ⟨h1, h2⟩ := ih (max b (out.getD a.toNat 0))
      refine ⟨by omega, fun k hk => ?_⟩
      rcases List.mem_cons.1 hk with rfl | hk
      · omega
      · exact h2 k hk
  exact (key l 0).2 k hk
theorem begF_pm {a b : List Int} {L : Int} (hL : 0 ≤ L) : ∀ (l : List Int) (z z' : Int), z ≤ z' → z' ≤ z + L → (∀ k ∈ l, a.getD k.toNat 0 ≤ b.getD k.toNat 0 ∧ b.getD k.toNat 0 ≤ a.getD k.toNat 0 + L) →
    l.foldl (fun b k => max b (a.getD k.toNat 0)) z ≤ l.foldl (fun b' k => max b' (b.getD k.toNat 0)) z' ∧ l.foldl (fun b' k => max b' (b.getD k.toNat 0)) z' ≤ l.foldl (fun b k => max b (a.getD k.toNat 0)) z + L
  | [], z, z', h1, h2, _ => ⟨h1, h2⟩
  | k :: l, z, z', h1, h2, h => by
    simp only [List.foldl_cons]
    have hk := h k (by simp)
    exact begF_pm hL l _ _ (by omega) (by omega) (fun x hx => h x (by simp [hx]))
/-- One work takes longer. -/
def slowW (ws : List Work) (w : Nat) (L : Int) : List Work := ws.set w { (ws.getD w default) with minutes := (ws.getD w default).minutes + L }
theorem slow_at {w : Nat} (hw : w < ws.length) (L : Int) (i : Nat) : (slowW ws w L).getD i default = if i = w then { (ws.getD w default) with minutes := (ws.getD w default).minutes + L } else ws.getD i default := gset _ _ _ _ _ hw
theorem slow_of {w : Nat} (hw : w < ws.length) (L : Int) (i : Nat) : ((slowW ws w L).getD i default).of = (ws.getD i default).of := by
  rw [slow_at hw]
  split
  · rename_i e; rw [e]
  · rfl
theorem slow_len (w : Nat) (L : Int) : (slowW ws w L).length = ws.length := by unfold slowW; rw [List.length_set]
theorem slow_built (hB : Built ws) {w : Nat} (hw : w < ws.length) {L : Int} (h0 : 0 ≤ L) (h1 : (ws.getD w default).minutes + L ≤ 10000) : Built (slowW ws w L) := by
  refine ⟨by rw [slow_len]; exact hB.len, fun i hi => ?_⟩
  rw [slow_len] at hi
  have hb := hB.at_ i hi
  rw [slow_at hw]
  split
  · rename_i e
    subst e
    exact ⟨hb.few, hb.base, ⟨by have := hb.mins; dsimp only; omega, h1⟩, hb.ahead, hb.once⟩
  · exact hb
theorem slow_stale (hB : Built ws) {w : Nat} (hw : w < ws.length) {L : Int} (hB' : Built (slowW ws w L)) (rv : List Int) : ∀ i, i < ws.length → (staleL (slowW ws w L) rv).getD i false = (staleL ws rv).getD i false := by
  intro i
  induction i using Nat.strongRecOn with
  | _ i ih =>
    intro hi
    have h1 := stale_eq hB'.opened rv (i := (i : Int)) (by omega) (by rw [slow_len]; omega)
    have h2 := stale_eq hB.opened rv (i := (i : Int)) (by omega) (by omega)
    rw [Int.toNat_natCast] at h1 h2
    rw [h1, h2, slow_of hw]
    congr 1
    rw [Bool.eq_iff_iff, List.any_eq_true, List.any_eq_true]
    have ha := (hB.at_ i hi).ahead
    exact ⟨fun ⟨k, h1, h2⟩ => ⟨k, h1, by have := ha k h1; rw [← ih k.toNat (by omega) (by omega)]; exact h2⟩, fun ⟨k, h1, h2⟩ => ⟨k, h1, by have := ha k h1; rw [ih k.toNat (by omega) (by omega)]; exact h2⟩⟩
theorem slow_ready (hB : Built ws) {w : Nat} (hw : w < ws.length) {L : Int} (hL : 0 ≤ L) (hB' : Built (slowW ws w L)) (rv : List Int) : ∀ i, i < ws.length →
    (i < w → (readyL (slowW ws w L) (orderP (slowW ws w L)) (staleL (slowW ws w L) rv)).getD i 0 = (readyL ws (orderP ws) (staleL ws rv)).getD i 0) ∧
    (readyL ws (orderP ws) (staleL ws rv)).getD i 0 ≤ (readyL (slowW ws w L) (orderP (slowW ws w L)) (staleL (slowW ws w L) rv)).getD i 0 ∧
    (readyL (slowW ws w L) (orderP (slowW ws w L)) (staleL (slowW ws w L) rv)).getD i 0 ≤ (readyL ws (orderP ws) (staleL ws rv)).getD i 0 + L := by
  intro i
  induction i using Nat.strongRecOn with
  | _ i ih =>
    intro hi
    have h1 := ready_eq hB'.opened (staleL (slowW ws w L) rv) (i := (i : Int)) (by omega) (by rw [slow_len]; omega)
    have h2 := ready_eq hB.opened (staleL ws rv) (i := (i : Int)) (by omega) (by omega)
    rw [Int.toNat_natCast] at h1 h2
    rw [slow_stale hB hw hB' rv i hi, slow_of hw] at h1
    have ha := (hB.at_ i hi).ahead
    rw [h1, h2]
    by_cases hs : (staleL ws rv).getD i false = true
    · rw [if_pos hs, if_pos hs]
      have hpm := begF_pm (a := readyL ws (orderP ws) (staleL ws rv)) (b := readyL (slowW ws w L) (orderP (slowW ws w L)) (staleL (slowW ws w L) rv)) hL (ws.getD i default).of 0 0 (Int.le_refl _) (by omega) (fun k hk => by
        have := ha k hk
        exact (ih k.toNat (by omega) (by omega)).2)
      have heq : i ≤ w → begF (readyL (slowW ws w L) (orderP (slowW ws w L)) (staleL (slowW ws w L) rv)) (ws.getD i default).of = begF (readyL ws (orderP ws) (staleL ws rv)) (ws.getD i default).of := fun hle => begF_congr (fun k hk => by
        have := ha k hk
        exact (ih k.toNat (by omega) (by omega)).1 (by omega))
      have hpm : begF (readyL ws (orderP ws) (staleL ws rv)) (ws.getD i default).of ≤ begF (readyL (slowW ws w L) (orderP (slowW ws w L)) (staleL (slowW ws w L) rv)) (ws.getD i default).of ∧ begF (readyL (slowW ws w L) (orderP (slowW ws w L)) (staleL (slowW ws w L) rv)) (ws.getD i default).of ≤ begF (readyL ws (orderP ws) (staleL ws rv)) (ws.getD i default).of + L := hpm
      rw [slow_at hw]
      by_cases e : i = w
      · subst e
        have := heq (Nat.le_refl _)
        rw [if_pos rfl]
        dsimp only
        omega
      · rw [if_neg e]
        refine ⟨fun hlt => ?_, by omega, by omega⟩
        have := heq (by omega)
        omega
    · rw [if_neg hs, if_neg hs]
      omega
theorem readyR_at (h : askedE ws rv = 0) {i : Nat} (hi : i < ws.length) : (readyR ws rv).getD i 0 = if (staleL ws rv).getD i false = true then begF (readyR ws rv) (ws.getD i default).of + (ws.getD i default).minutes else -1 := by
  have := ready_eq (asked_ok h).1 (staleL ws rv) (i := (i : Int)) (by omega) (by omega)
  rw [readyR_ok h, Int.toNat_natCast] at this
  exact this
end Go.Nm
namespace Go.Proofs.Ytndobgodeicloaa
open Go Go.Nm
variable {ws : List Work} {rv : List Int}
theorem qr_beg (h : askedE ws rv = 0) {i : Nat} (hi : i < ws.length) : (M.iter (m_nilometerlaw13_NotesReady_b1 ws (readyR ws rv) i) (0, 0)).Ends (begF (readyR ws rv) (ws.getD i default).of) := by
  have hR := opened_right (asked_ok h).1
  have hl : (readyR ws rv).length = ws.length := by rw [← readyR_ok h, readyL_len]
  have hofr := right_of hR hi
  have := M.i_for (body := m_nilometerlaw13_NotesReady_b1 ws (readyR ws rv) i) (r := begF (readyR ws rv) (ws.getD i default).of) (fun k => (begF (readyR ws rv) ((ws.getD i default).of.take k), k)) (ws.getD i default).of.length (fun k hk => ?_) ?_
  · simpa [begF] using this
  · have hx := hofr _ (getD_memN (ws.getD i default).of (by omega : (k : Int) < _) 0)
    simp only [m_nilometerlaw13_NotesReady_b1]
    rw [begF_next _ _ (by omega)]
    exact M.i_t (by simpa using hk) (M.grdD (by omega) (M.i_grd (gA2 hx.1 (by omega)) M.i_pure))
  · simp only [m_nilometerlaw13_NotesReady_b1, List.take_length]
    exact M.i_f (by simp) M.i_pure
theorem qr_each (h : askedE ws rv = 0) : (M.iter (m_nilometerlaw13_NotesReady_b2 ws (readyR ws rv) (staleR ws rv)) (0, 0)).Ends (.inr ((readyR ws rv).foldl max 0)) := by
  have hO := (asked_ok h).1
  have hR := opened_right hO
  have hl : (readyR ws rv).length = ws.length := by rw [← readyR_ok h, readyL_len]
  have := M.i_for (body := m_nilometerlaw13_NotesReady_b2 ws (readyR ws rv) (staleR ws rv)) (r := .inr ((readyR ws rv).foldl max 0)) (fun i => (i, ((readyR ws rv).take i).foldl max 0)) ws.length (fun i hi => ?_) ?_
  · simpa using this
  · have hc := stale_con h (i := (i : Int)) (by omega) (by omega)
    rw [Int.toNat_natCast] at hc
    have he := readyR_at h hi
    have hnum := right_nums hR hi
    have hg := (foldl_max_ge ((readyR ws rv).take i) 0).1
    have hb := begF_le (readyR ws rv) (ws.getD i default).of 300000 (by omega) (fun y hy => (readyL_bound hR (staleL ws rv) y (by rw [readyR_ok h]; exact hy)).2)
    simp only [m_nilometerlaw13_NotesReady_b2]
    rw [hc, take_succ_getD (readyR ws rv) (by omega) 0, List.foldl_append]
    simp only [List.foldl_cons, List.foldl_nil]
    refine M.i_t (by simpa using hi) (M.grdD (by omega) ?_)
    cases hs : (staleL ws rv).getD i false with
    | true =>
      rw [hs, if_pos rfl] at he
      exact M.i_f rfl (M.i_bind (qr_beg h hi) (M.grdD (by omega) (M.i_grd (gA2 (by omega) (by omega)) (M.i_f (by rw [he]; simp) M.i_pure))))
    | false =>
      rw [hs, if_neg (by decide)] at he
      rw [he, show max (((readyR ws rv).take i).foldl max 0) (-1) = ((readyR ws rv).take i).foldl max 0 from by omega]
      exact M.i_t rfl (M.grdD (by omega) (M.i_f (by decide) M.i_pure))
  · simp only [m_nilometerlaw13_NotesReady_b2]
    rw [← hl, List.take_length, hl]
    exact M.i_f (by simp) M.i_pure
theorem qr_sum (h : askedE ws rv = 0) {l : List Int} (hl : ∀ x ∈ l, 0 ≤ x ∧ x < (ws.length : Int) ∧ (staleL ws rv).getD x.toNat false = true) (hn : l.length ≤ 100) :
    (M.iter (m_nilometerlaw13_NotesReady_b3 ws (staleR ws rv) l) (0, 0)).Ends (.inr (sumM ws l)) := by
  have hR := opened_right (asked_ok h).1
  have hb : ∀ k, k ≤ l.length → 0 ≤ sumM ws (l.take k) ∧ sumM ws (l.take k) ≤ 10000 * (k : Int) := by
    intro k
    induction k with
    | zero => intro _; simp [sumM]
    | succ k ih =>
      intro hk
      have hm := hl _ (getD_memN l (i := k) (by omega) 0)
      have hn := right_nums hR (i := Int.toNat (l.getD k 0)) (by omega)
      have := ih (by omega)
      rw [sumM_next l (by omega)]
      omega
  have := M.i_for (body := m_nilometerlaw13_NotesReady_b3 ws (staleR ws rv) l) (r := .inr (sumM ws l)) (fun k => (sumM ws (l.take k), k)) l.length (fun k hk => ?_) ?_
  · simpa [sumM] using this
  · have hm := hl _ (getD_memN l (by omega : (k : Int) < _) 0)
    have hb1 := hb (k + 1) (by omega)
    have hc := stale_con h hm.1 hm.2.1
    rw [hm.2.2] at hc
    rw [sumM_next l hk] at hb1
    simp only [m_nilometerlaw13_NotesReady_b3]
    rw [sumM_next l hk]
    refine M.i_t (by simpa using hk) (M.grdD (by omega) (M.i_f ?_ (M.i_grd (gA2 hm.1 hm.2.1) (M.i_grd (gA2 (by omega) (by omega)) M.i_pure))))
    rw [hc, decide_eq_false (by omega), decide_eq_false (by omega)]
    rfl
  · simp only [m_nilometerlaw13_NotesReady_b3, List.take_length]
    exact M.i_f (by simp) M.i_pure
theorem qr_next {b : List UInt8} {c u x at_ : Int} (h : SOk c u x) (hc : c ≤ 1000000000) (hw : ws.length ≤ 30) :
    (M.iter (m_nilometerlaw13_NotesReady_b5 b ws at_) (u, x, -1, 0)).Out (fun y => SOk (c + 30) y.1 y.2.1 ∧ (y.2.2 = -1 ∨ (0 ≤ y.2.2 ∧ y.2.2 < (ws.length : Int) ∧ at_ ∈ (ws.getD y.2.2.toNat default).of))) := by
  refine M.o_for ws.length (fun i st => st.2.2.2 = i ∧ SOk (c + (i : Int)) st.1 st.2.1 ∧ (st.2.2.1 = -1 ∨ (0 ≤ st.2.2.1 ∧ st.2.2.1 < (ws.length : Int) ∧ at_ ∈ (ws.getD st.2.2.1.toNat default).of))) ?_ ?_ (s := (u, x, -1, 0)) ⟨rfl, h.mono (by omega), .inl rfl⟩
  · rintro i ⟨u, x, nx, j⟩ hi ⟨rfl, ok, hn⟩
    dsimp only at hi ok hn ⊢
    simp only [m_nilometerlaw13_NotesReady_b5]
    refine M.o_t (by simpa using hi) (M.o_grdD (by omega) ?_)
    cases hcn : (ws.getD j default).of.contains at_ with
    | true =>
      have hme : at_ ∈ (ws.getD ((j : Int)).toNat default).of := by rw [Int.toNat_natCast]; rw [← List.contains_iff_mem]; exact hcn
      refine M.o_if (fun hb => ?_) (fun hb => ?_)
      · refine M.o_bind (next_out ok (by omega) (by omega)) ?_
        rintro ⟨r, u', x'⟩ ⟨ok', _, _⟩
        dsimp only at ok' ⊢
        refine M.o_if (fun hb2 => ?_) (fun hb2 => ?_)
        · exact M.o_pure ⟨rfl, ok'.mono (by omega), .inr ⟨by dsimp only; omega, by dsimp only; omega, hme⟩⟩
        · exact M.o_pure ⟨rfl, ok'.mono (by omega), hn⟩
      · exact M.o_t (by simp) (M.o_pure ⟨rfl, ok.mono (by omega), .inr ⟨by dsimp only; omega, by dsimp only; omega, hme⟩⟩)
    | false =>
      exact M.o_f rfl (M.o_f rfl (M.o_pure ⟨rfl, ok.mono (by omega), hn⟩))
  · rintro ⟨u, x, nx, j⟩ ⟨rfl, ok, hn⟩
    dsimp only at ok hn ⊢
    simp only [m_nilometerlaw13_NotesReady_b5]
    exact M.o_f (by simp) (M.o_pure ⟨ok.mono (by omega), hn⟩)
theorem qr_walk (hB : Built ws) (h : askedE ws rv = 0) {b : List UInt8} {c u x at_ : Int} (hs : SOk c u x) (hc : c ≤ 1000000) (a0 : 0 ≤ at_) (a1 : at_ < ws.length) (hst : (staleL ws rv).getD at_.toNat false = true) :
    (M.iter (m_nilometerlaw13_NotesReady_b6 b ws) (u, x, at_, 0)).Out (fun y => y.1 ≤ maxT (readyR ws rv) (readyR ws rv).length) := by
  have hR := opened_right (asked_ok h).1
  have hlen := right_len hR
  have hl : (readyR ws rv).length = ws.length := by rw [← readyR_ok h, readyL_len]
  refine M.o_iter (fun (m : Nat) (s : Int × Int × Int × Int) => ∃ k : Int, SOk (c + k) s.1 s.2.1 ∧ 0 ≤ s.2.2.2 ∧ 0 ≤ k ∧ k + 30 * (m : Int) ≤ 1000 ∧ ((s.2.2.1 = -1 ∧ m = 0 ∧ s.2.2.2 ≤ maxT (readyR ws rv) (readyR ws rv).length) ∨ (0 ≤ s.2.2.1 ∧ s.2.2.1 < (ws.length : Int) ∧ (m : Int) = ws.length - s.2.2.1 ∧ (staleL ws rv).getD s.2.2.1.toNat false = true ∧ s.2.2.2 ≤ begF (readyR ws rv) (ws.getD s.2.2.1.toNat default).of))) ?_ (ws.length - at_.toNat) (u, x, at_, 0)
    ⟨0, hs.mono (by omega), Int.le_refl _, Int.le_refl _, by omega, .inr ⟨a0, a1, by dsimp only; omega, hst, ?_⟩⟩
  · rintro m ⟨u, x, at_, al⟩ ⟨k, ok, hal, hk0, hk, hh⟩
    dsimp only at ok hal hk hh ⊢
    simp only [m_nilometerlaw13_NotesReady_b6]
    rcases hh with ⟨rfl, rfl, hle⟩ | ⟨b0, b1, hm, hst, hle⟩
    · exact M.o_f rfl (M.o_pure hle)
    · have he := readyR_at h (i := at_.toNat) (by omega)
      rw [hst, if_pos rfl] at he
      have hnum := right_nums hR (i := at_.toNat) (by omega)
      have hup := maxT_ge (readyR ws rv) _ (getD_memN (readyR ws rv) (i := at_.toNat) (by omega) 0)
      have hbd := (readyL_bound hR (staleL ws rv) _ (by rw [readyR_ok h]; exact getD_memN (readyR ws rv) (i := at_.toNat) (by omega) 0)).2
      refine M.o_t (by simpa using b0) (M.o_grd (gA2 b0 b1) (M.o_grd (gA2 (by omega) (by omega)) (M.o_bind (qr_next ok (by omega) hlen.2) ?_)))
      rintro ⟨u', x', nx⟩ ⟨ok', hn⟩
      dsimp only at ok' hn ⊢
      rcases hn with rfl | ⟨n0, n1, nm⟩
      · exact M.o_pure ⟨0, by omega, k + 30, ok'.mono (by omega), by dsimp only; omega, by omega, by omega, .inl ⟨rfl, rfl, by dsimp only; omega⟩⟩
      · have hah := (hB.at_ nx.toNat (by omega)).ahead _ nm
        have hns : (staleL ws rv).getD nx.toNat false = true := by
          have := stale_eq (asked_ok h).1 rv n0 n1
          rw [this, Bool.or_eq_true]
          exact .inr (List.any_eq_true.2 ⟨_, nm, hst⟩)
        have hge := begF_one (readyR ws rv) (ws.getD nx.toNat default).of nm
        exact M.o_pure ⟨ws.length - nx.toNat, by omega, k + 30, ok'.mono (by omega), by dsimp only; omega, by omega, by omega, .inr ⟨n0, n1, by dsimp only; omega, hns, by dsimp only; omega⟩⟩
  · dsimp only
    exact (begF_le (readyR ws rv) _ 300000 (by omega) (fun y hy => (readyL_bound hR (staleL ws rv) y (by rw [readyR_ok h]; exact hy)).2)).1
theorem qr_slow {a t : List Int} {L : Int} (h0 : 0 ≤ L) (h1 : L < 256) (hl : t.length = a.length) (hb : ∀ i, i < a.length → a.getD i 0 ≤ 1000000000 ∧ -1 ≤ a.getD i 0) (h : ∀ i, i < a.length → a.getD i 0 ≤ t.getD i 0 ∧ t.getD i 0 ≤ a.getD i 0 + L) :
    (M.iter (m_nilometerlaw13_NotesReady_b7 L a t) 0).Ends (.inr ()) := by
  have s0 := M.i_scan (b := m_nilometerlaw13_NotesReady_b7 L a t) a.length (fun _ => false) (fun i hi _ => ?_) (fun _ => ?_)
  · rw [show (List.range a.length).any (fun _ => false) = false from by simp] at s0
    exact s0
  · have := h i hi
    have := hb i hi
    simp only [m_nilometerlaw13_NotesReady_b7]
    refine M.i_t (by simpa using hi) (M.grdD (by omega) (M.i_grd (gOr2 (by omega) (by omega)) (M.i_f ?_ M.i_pure)))
    rw [decide_eq_false (by omega), decide_eq_false (by omega)]
    rfl
  · simp only [m_nilometerlaw13_NotesReady_b7]
    exact M.i_f (by simp) M.i_pure
theorem notesReady_out (a b : List UInt8) {wh lo : Int} (w0 : 0 ≤ wh) (w1 : wh < 256) (l0 : 0 ≤ lo) (l1 : lo < 256) : (m_nilometerlaw13_NotesReady a b wh lo).Out (fun r => r = true) := by
  unfold m_nilometerlaw13_NotesReady
  have s0 : SOk 0 0 0 := ⟨Int.le_refl _, Int.le_refl _, Int.le_refl _, by omega⟩
  refine M.o_bindE M.i_pure (M.o_bindE M.i_pure (M.o_bind (made_out s0 (by omega) (by omega) (by omega)) ?_))
  rintro ⟨ws, u1, x1⟩ ⟨hW, ok1⟩
  dsimp only at hW ok1 ⊢
  have hB := hW.built
  have hO := hB.opened
  have h2 := hW.two
  have h14 := hW.most
  refine M.o_bind (revised_out ok1 (by omega) (by omega) (by omega)) ?_
  rintro ⟨rv, u2, x2⟩ ⟨hv, _⟩
  dsimp only at hv ⊢
  have hA := hv.asked hO
  have hrl : (readyR ws rv).length = ws.length := by rw [← readyR_ok hA, readyL_len]
  obtain ⟨e1, e2, e3, e4, e5, e6⟩ := longest_line hA hv.some
  have hll := longestR_len ws rv
  rw [hA, e6]
  refine M.o_bindE M.i_pure (M.o_bindE M.i_pure (M.o_bindE M.i_pure (M.o_f ?_ ?_)))
  · dsimp only
    rw [hrl]
    simp
    intro e
    rw [e] at e3
    simp at e3
  dsimp only
  refine M.o_bindE (qr_each hA) (M.o_bindE (qr_sum hA e1 (by omega)) (M.o_bindE (notesLeads_ends hO (fun x hx => ⟨(e1 x hx).1, (e1 x hx).2.1⟩) (by omega)) (M.o_f ?_ ?_)))
  · rw [e2, e4, foldl_max_eq (by omega) e5, decide_eq_true (by omega)]
    simp
  have hsl : 1 ≤ (staleR ws rv).length := by
    obtain ⟨x, hx⟩ := List.exists_mem_of_ne_nil rv hv.some
    have hxr := hv.lt x hx
    have : x ∈ staleR ws rv := by
      rw [staleL_mem hA]
      refine ⟨hxr.1, hxr.2, ?_⟩
      rw [stale_eq hO rv hxr.1 hxr.2]
      simp [hx]
    exact List.length_pos_of_mem this
  have hsl2 : (staleR ws rv).length ≤ 30 := by
    unfold staleR
    rw [if_pos hA]
    have := stT_len ws rv ws.length
    omega
  refine M.o_bind (next_out s0 (by omega) (by omega)) ?_
  rintro ⟨r5, u3, x3⟩ ⟨ok3, lt3, _⟩
  dsimp only at ok3 lt3 ⊢
  have lt3 := lt3 (by omega)
  have hm := (staleL_mem hA _).1 (getD_memN (staleR ws rv) (i := r5.toNat) (by omega) 0)
  refine M.o_grd (gA2 lt3.1 lt3.2) (M.o_bind (qr_walk hB hA ok3 (by omega) hm.1 hm.2.1 hm.2.2) ?_)
  rintro ⟨al, u4, x4⟩ hal
  dsimp only at hal ⊢
  rw [foldl_max_eq (by omega) e5]
  have hwn : (0 : Int) < (ws.length : Int) := by omega
  have m0 := Int.emod_nonneg wh (show (ws.length : Int) ≠ 0 by omega)
  have m1 := Int.emod_lt_of_pos wh hwn
  generalize wh % (ws.length : Int) = q at *
  have hnum := (hB.at_ q.toNat (by omega)).mins
  have hsm := hW.small q.toNat (by omega)
  refine M.o_f (by simpa using hal) (M.o_bindE (copyWorks_ends (by omega) (fun x hx => ?_)) ?_)
  · obtain ⟨i, hi, rfl⟩ := mem_getD hx default
    have := (hB.at_ i hi).few
    omega
  refine M.o_grd (gA2 w0 w1) (M.o_grd (gA2 w0 (by omega)) (M.o_grd (gA2 m0 m1) (M.o_grd (gA2 l0 l1) (M.o_grd (gA2 (by omega) (by omega)) ?_))))
  have hB' := slow_built hB (w := q.toNat) (by omega) l0 (by omega)
  have hv' : RevOk (slowW ws q.toNat lo) rv := ⟨hv.some, hv.asc, by rw [slow_len]; exact hv.lt, by rw [slow_len]; exact hv.few⟩
  have hA' := hv'.asked hB'.opened
  have hrl' : (readyR (slowW ws q.toNat lo) rv).length = ws.length := by rw [← readyR_ok hA', readyL_len, slow_len]
  have hcmp := slow_ready hB (w := q.toNat) (by omega) l0 hB' rv
  rw [readyR_ok hA, readyR_ok hA'] at hcmp
  show (M.bind (M.pure (readyR (slowW ws q.toNat lo) rv, askedE (slowW ws q.toNat lo) rv)) _).Out _
  rw [hA']
  refine M.o_bindE M.i_pure ?_
  dsimp only
  refine M.o_f (by rw [hrl, hrl']; simp) (M.o_bindE (qr_slow l0 l1 (by omega) (fun i hi => ?_) (fun i hi => (hcmp i (by omega)).2)) (M.o_bindE awake_ends (M.o_pure rfl)))
  have := readyL_at (opened_right hO) (staleL ws rv) (i := i) (by omega)
  rw [readyR_ok hA] at this
  omega
theorem notesReady_ends (a b : List UInt8) (wh lo : UInt8) : (m_nilometerlaw13_NotesReady a b (wh.toNat : Int) (lo.toNat : Int)).Ends true := by
  have h1 := UInt8.toNat_lt wh
  have h2 := UInt8.toNat_lt lo
  obtain ⟨r, h, rfl⟩ := notesReady_out a b (wh := (wh.toNat : Int)) (lo := (lo.toNat : Int)) (by omega) (by omega) (by omega) (by omega)
  exact h
end Go.Proofs.Ytndobgodeicloaa
