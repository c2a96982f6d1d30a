/- Part 5 of the texts on which the proof rests. Conditions: none. -/
import Derived.Laws.Cover3
import Derived.Test.YtndobgodeicloaaZA4
set_option linter.unusedVariables false
set_option linter.unusedSimpArgs false
set_option linter.unusedSectionVars false
section
set_option maxRecDepth 100000
set_option maxHeartbeats 16000000
namespace Go.Proofs.Ytndobgodeicloaa
open Go Go.Nm
def m_nilometerlaw13_awake : M Bool :=
  M.bind (m_nilometerlaw13_Six) fun r2 =>
  M.bind (M.pure (valuesR r2 ([(⟨(0 : Int), (2 : Int), (7 : Int)⟩ : Note), (⟨(1 : Int), (0 : Int), (9 : Int)⟩ : Note)]), valuesE r2 ([(⟨(0 : Int), (2 : Int), (7 : Int)⟩ : Note), (⟨(1 : Int), (0 : Int), (9 : Int)⟩ : Note)]))) fun (l, e) =>
  M.bind (m_nilometerlaw13_Six) fun r3 =>
  M.bind (M.pure (staleR r3 ([(0 : Int)]), askedE r3 ([(0 : Int)]))) fun (l2, e2) =>
  M.bind (m_nilometerlaw13_Six) fun r4 =>
  M.bind (M.pure (readyR r4 ([(1 : Int)]), askedE r4 ([(1 : Int)]))) fun (l3, e3) =>
  M.bind (m_nilometerlaw13_Six) fun r5 =>
  M.bind (M.pure (longestR r5 ([(0 : Int)]), longestE r5 ([(0 : Int)]))) fun (l4, e4) =>
  M.bind (M.pure (decide (l = ([(7 : Int), (9 : Int), (26 : Int), (10 : Int), (47 : Int), (48 : Int)])))) fun s =>
  M.bind (M.pure (decide (l2 = ([(0 : Int), (2 : Int), (4 : Int), (5 : Int)])))) fun s2 =>
  M.bind (M.pure (decide (l3 = ([(-1 : Int), (6 : Int), (16 : Int), (36 : Int), (56 : Int), (57 : Int)])))) fun s3 =>
  M.bind (M.pure (decide (l4 = ([(0 : Int), (2 : Int), (4 : Int), (5 : Int)])))) fun s4 =>
  bif ((((((((e != 0) || (e2 != 0)) || (e3 != 0)) || (e4 != 0)) || (!s)) || (!s2)) || (!s3)) || (!s4)) then (
  M.pure false)
  else (
  M.bind (m_nilometerlaw13_Six) fun r6 =>
  M.bind (m_notes_Fences r6 ([(0 : Int)]) ([(0 : Int), (2 : Int), (4 : Int), (5 : Int)])) fun (r0, r1) =>
  M.bind (m_nilometerlaw13_Six) fun r7 =>
  M.bind (m_notes_Fences r7 ([(0 : Int)]) ([(0 : Int), (2 : Int), (4 : Int)])) fun (r02, r12) =>
  M.bind (m_nilometerlaw13_Six) fun r8 =>
  M.bind (m_notes_Freeze r8 ([(1 : Int)]) 4) fun (r03, r13) =>
  M.bind (m_nilometerlaw13_Six) fun r9 =>
  M.bind (m_notes_Lines r9 ([(1 : Int)]) 4) fun (r04, r14) =>
  M.bind (m_nilometerlaw13_Six) fun r10 =>
  M.bind (m_notes_Freeze r10 ([(1 : Int)]) 3) fun (r05, r15) =>
  M.bind (M.pure (decide (r03 = ([(2 : Int), (3 : Int)])))) fun s5 =>
  bif (((((((((r1 != 0) || (r12 != 0)) || (r13 != 0)) || (r14 != 0)) || (r15 != 5)) || (!r0)) || r02) || (!s5)) || ((r04.length : Int) != 2)) then (
  M.pure false)
  else (
  M.bind (m_nilometerlaw13_Six) fun r11 =>
  M.bind (M.pure (withdrawnR r11 ([(⟨(0 : Int), (3 : Int), (8 : Int)⟩ : Note), (⟨(0 : Int), (2 : Int), (7 : Int)⟩ : Note), (⟨(1 : Int), (0 : Int), (9 : Int)⟩ : Note)]) ([(⟨(2 : Int), (26 : Int)⟩ : Pub), (⟨(3 : Int), (10 : Int)⟩ : Pub)]), withdrawnE r11 ([(⟨(0 : Int), (3 : Int), (8 : Int)⟩ : Note), (⟨(0 : Int), (2 : Int), (7 : Int)⟩ : Note), (⟨(1 : Int), (0 : Int), (9 : Int)⟩ : Note)]) ([(⟨(2 : Int), (26 : Int)⟩ : Pub), (⟨(3 : Int), (10 : Int)⟩ : Pub)]))) fun (l5, e5) =>
  M.bind (M.pure (decide (l5 = ([(0 : Int)])))) fun s6 =>
  M.pure ((e5 == 0) && s6)))
theorem nilometerlaw13_awake_ok {R : List Chunk}    {r : Bool} (hM : (m_nilometerlaw13_awake).Ends r) (w : World) (H : St w w [] R) : Ret Try.prog 17 #[] w fun v w' => ∃ (y0 : Bool), y0 = r ∧ v = B y0 ∧ St w w' [] R := by
 refine ret_of_W Try.func17 rfl rfl rfl ?_
 refine sQ rfl <| sA (B false) rfl <| s_nil <| sQ rfl ?_
 obtain ⟨r2z, hx1z, hM⟩ := M.e_bind hM
 refine s_call cf79 [] rfl (nilometerlaw13_Six_ok hx1z _ (St.give (T := []) H rfl)) ?_
 rintro vq w3z ⟨r2, u0_1, rr1_2, Bs2_3, hr4z, hvq, H2_, hf5z⟩
 subst hr4z
 subst vq
 try dsimp only at hM
 replace H : St w w3z [cOwn (α := Raw 2) 60 u0_1 rr1_2, cRo Bs2_3] R := H.back H2_ rfl
 clear H2_
 refine s_val (x_bld (ps := [(0, I 0), (1, I 2), (2, I 7)]) (zs := [I 0, I 0, I 0]) (L' := [I 0, I 2, I 7]) rfl Try.underlying30 Al30 rfl (Bd30 Try.underlying30) (.cons (cs := [I 0]) rfl rfl rfl rfl rfl <| .cons (cs := [I 2]) rfl rfl rfl rfl rfl <| .cons (cs := [I 7]) rfl rfl rfl rfl rfl <| .nil)) <| s_val (x_bld (ps := [(0, I 1), (2, I 9)]) (zs := [I 0, I 0, I 0]) (L' := [I 1, I 0, I 9]) rfl Try.underlying30 Al30 rfl (Bd30 Try.underlying30) (.cons (cs := [I 1]) rfl rfl rfl rfl rfl <| .cons (cs := [I 9]) rfl rfl rfl rfl rfl <| .nil)) ?_
 refine t_bs (α := Note) T23 [.agg #[I 0, I 2, I 7], .agg #[I 1, I 0, I 9]] [(⟨(0 : Int), (2 : Int), (7 : Int)⟩ : Note), (⟨(1 : Int), (0 : Int), (9 : Int)⟩ : Note)] H rfl (.cons rfl (Flat.rep_enc _ (⟨(0 : Int), (2 : Int), (7 : Int)⟩ : Note)) <| .cons rfl (Flat.rep_enc _ (⟨(1 : Int), (0 : Int), (9 : Int)⟩ : Note)) <| .nil) rfl rfl rfl ?_
 intro v6z w7z H
 obtain ⟨⟨l, e⟩, hx11z, hM⟩ := M.e_bind hM
 obtain ⟨hq12z, hq13z⟩ := Prod.mk.inj (M.e_pure hx11z)
 try dsimp only at hM
 refine s_call cf21 [u0_1, v6z] rfl (by have hc_ := (Values_any _ ((rowSl rfl (H.get (k := 1) rfl) (roLe _ (H.get (k := 2) rfl)) hf5z).mono (Cells.sup_le (ownLe _ (H.get (k := 1) rfl)) (roLe _ (H.get (k := 2) rfl)))) ((ownSl (H.get (k := 0) rfl)).mono (ownLe _ (H.get (k := 0) rfl)))); rw [hq12z, hq13z] at hc_; exact hc_) ?_
 rintro _ w8z ⟨u9z, rfl, hs10z, hx_⟩
 obtain ⟨Bs_5, H, hs10z⟩ := H.fresh hx_ hs10z
 clear hx_
 have hl_hs10z := hs10z.len_le
 refine sM (.tuple #[u9z, I e]) rfl <| sX [u9z, I e] u9z rfl rfl <| sX [u9z, I e] (I e) rfl rfl <| sA u9z rfl <| sA (I e) rfl <| s_nil <| sQ rfl ?_
 obtain ⟨r15z, hx14z, hM⟩ := M.e_bind hM
 refine s_call cf79 [] rfl (nilometerlaw13_Six_ok hx14z _ (St.give (T := [cRo Bs_5, cOwn (α := Note) 30 v6z ([(⟨(0 : Int), (2 : Int), (7 : Int)⟩ : Note), (⟨(1 : Int), (0 : Int), (9 : Int)⟩ : Note)]), cOwn (α := Raw 2) 60 u0_1 rr1_2, cRo Bs2_3]) H rfl)) ?_
 rintro vq w16z ⟨r3, u0_6, rr1_7, Bs2_8, hr17z, hvq, H2_, hf18z⟩
 subst hr17z
 subst vq
 try dsimp only at hM
 replace H : St w w16z [cOwn (α := Raw 2) 60 u0_6 rr1_7, cRo Bs2_8, cRo Bs_5, cOwn (α := Note) 30 v6z ([(⟨(0 : Int), (2 : Int), (7 : Int)⟩ : Note), (⟨(1 : Int), (0 : Int), (9 : Int)⟩ : Note)]), cOwn (α := Raw 2) 60 u0_1 rr1_2, cRo Bs2_3] R := H.back H2_ rfl
 clear H2_
 refine t_bs (α := Int) T34 [I 0] [(0 : Int)] H rfl (.cons rfl (Flat.rep_enc _ (0 : Int)) <| .nil) rfl rfl rfl ?_
 intro v19z w20z H
 obtain ⟨⟨l2, e2⟩, hx24z, hM⟩ := M.e_bind hM
 obtain ⟨hq25z, hq26z⟩ := Prod.mk.inj (M.e_pure hx24z)
 try dsimp only at hM
 refine s_call cf32 [u0_6, v19z] rfl (by have hc_ := (Stale_any _ ((rowSl rfl (H.get (k := 1) rfl) (roLe _ (H.get (k := 2) rfl)) hf18z).mono (Cells.sup_le (ownLe _ (H.get (k := 1) rfl)) (roLe _ (H.get (k := 2) rfl)))) ((ownSl (H.get (k := 0) rfl)).mono (ownLe _ (H.get (k := 0) rfl)))); rw [hq25z, hq26z] at hc_; exact hc_) ?_
 rintro _ w21z ⟨u22z, rfl, hs23z, hx_⟩
 obtain ⟨Bs_10, H, hs23z⟩ := H.fresh hx_ hs23z
 clear hx_
 have hl_hs23z := hs23z.len_le
 refine sM (.tuple #[u22z, I e2]) rfl <| sX [u22z, I e2] u22z rfl rfl <| sX [u22z, I e2] (I e2) rfl rfl <| sA u22z rfl <| sA (I e2) rfl <| s_nil <| sQ rfl ?_
 obtain ⟨r28z, hx27z, hM⟩ := M.e_bind hM
 refine s_call cf79 [] rfl (nilometerlaw13_Six_ok hx27z _ (St.give (T := [cRo Bs_10, cOwn (α := Int) 3 v19z ([(0 : Int)]), cOwn (α := Raw 2) 60 u0_6 rr1_7, cRo Bs2_8, cRo Bs_5, cOwn (α := Note) 30 v6z ([(⟨(0 : Int), (2 : Int), (7 : Int)⟩ : Note), (⟨(1 : Int), (0 : Int), (9 : Int)⟩ : Note)]), cOwn (α := Raw 2) 60 u0_1 rr1_2, cRo Bs2_3]) H rfl)) ?_
 rintro vq w29z ⟨r4, u0_11, rr1_12, Bs2_13, hr30z, hvq, H2_, hf31z⟩
 subst hr30z
 subst vq
 try dsimp only at hM
 replace H : St w w29z [cOwn (α := Raw 2) 60 u0_11 rr1_12, cRo Bs2_13, cRo Bs_10, cOwn (α := Int) 3 v19z ([(0 : Int)]), cOwn (α := Raw 2) 60 u0_6 rr1_7, cRo Bs2_8, cRo Bs_5, cOwn (α := Note) 30 v6z ([(⟨(0 : Int), (2 : Int), (7 : Int)⟩ : Note), (⟨(1 : Int), (0 : Int), (9 : Int)⟩ : Note)]), cOwn (α := Raw 2) 60 u0_1 rr1_2, cRo Bs2_3] R := H.back H2_ rfl
 clear H2_
 refine t_bs (α := Int) T34 [I 1] [(1 : Int)] H rfl (.cons rfl (Flat.rep_enc _ (1 : Int)) <| .nil) rfl rfl rfl ?_
 intro v32z w33z H
 obtain ⟨⟨l3, e3⟩, hx37z, hM⟩ := M.e_bind hM
 obtain ⟨hq38z, hq39z⟩ := Prod.mk.inj (M.e_pure hx37z)
 try dsimp only at hM
 refine s_call cf36 [u0_11, v32z] rfl (by have hc_ := (Ready_any _ ((rowSl rfl (H.get (k := 1) rfl) (roLe _ (H.get (k := 2) rfl)) hf31z).mono (Cells.sup_le (ownLe _ (H.get (k := 1) rfl)) (roLe _ (H.get (k := 2) rfl)))) ((ownSl (H.get (k := 0) rfl)).mono (ownLe _ (H.get (k := 0) rfl)))); rw [hq38z, hq39z] at hc_; exact hc_) ?_
 rintro _ w34z ⟨u35z, rfl, hs36z, hx_⟩
 obtain ⟨Bs_15, H, hs36z⟩ := H.fresh hx_ hs36z
 clear hx_
 have hl_hs36z := hs36z.len_le
 refine sM (.tuple #[u35z, I e3]) rfl <| sX [u35z, I e3] u35z rfl rfl <| sX [u35z, I e3] (I e3) rfl rfl <| sA u35z rfl <| sA (I e3) rfl <| s_nil <| sQ rfl ?_
 obtain ⟨r41z, hx40z, hM⟩ := M.e_bind hM
 refine s_call cf79 [] rfl (nilometerlaw13_Six_ok hx40z _ (St.give (T := [cRo Bs_15, cOwn (α := Int) 3 v32z ([(1 : Int)]), cOwn (α := Raw 2) 60 u0_11 rr1_12, cRo Bs2_13, cRo Bs_10, cOwn (α := Int) 3 v19z ([(0 : Int)]), cOwn (α := Raw 2) 60 u0_6 rr1_7, cRo Bs2_8, cRo Bs_5, cOwn (α := Note) 30 v6z ([(⟨(0 : Int), (2 : Int), (7 : Int)⟩ : Note), (⟨(1 : Int), (0 : Int), (9 : Int)⟩ : Note)]), cOwn (α := Raw 2) 60 u0_1 rr1_2, cRo Bs2_3]) H rfl)) ?_
 rintro vq w42z ⟨r5, u0_16, rr1_17, Bs2_18, hr43z, hvq, H2_, hf44z⟩
 subst hr43z
 subst vq
 try dsimp only at hM
 replace H : St w w42z [cOwn (α := Raw 2) 60 u0_16 rr1_17, cRo Bs2_18, cRo Bs_15, cOwn (α := Int) 3 v32z ([(1 : Int)]), cOwn (α := Raw 2) 60 u0_11 rr1_12, cRo Bs2_13, cRo Bs_10, cOwn (α := Int) 3 v19z ([(0 : Int)]), cOwn (α := Raw 2) 60 u0_6 rr1_7, cRo Bs2_8, cRo Bs_5, cOwn (α := Note) 30 v6z ([(⟨(0 : Int), (2 : Int), (7 : Int)⟩ : Note), (⟨(1 : Int), (0 : Int), (9 : Int)⟩ : Note)]), cOwn (α := Raw 2) 60 u0_1 rr1_2, cRo Bs2_3] R := H.back H2_ rfl
 clear H2_
 refine t_bs (α := Int) T34 [I 0] [(0 : Int)] H rfl (.cons rfl (Flat.rep_enc _ (0 : Int)) <| .nil) rfl rfl rfl ?_
 intro v45z w46z H
 obtain ⟨⟨l4, e4⟩, hx50z, hM⟩ := M.e_bind hM
 obtain ⟨hq51z, hq52z⟩ := Prod.mk.inj (M.e_pure hx50z)
 try dsimp only at hM
 refine s_call cf38 [u0_16, v45z] rfl (by have hc_ := (Longest_any _ ((rowSl rfl (H.get (k := 1) rfl) (roLe _ (H.get (k := 2) rfl)) hf44z).mono (Cells.sup_le (ownLe _ (H.get (k := 1) rfl)) (roLe _ (H.get (k := 2) rfl)))) ((ownSl (H.get (k := 0) rfl)).mono (ownLe _ (H.get (k := 0) rfl)))); rw [hq51z, hq52z] at hc_; exact hc_) ?_
 rintro _ w47z ⟨u48z, rfl, hs49z, hx_⟩
 obtain ⟨Bs_20, H, hs49z⟩ := H.fresh hx_ hs49z
 clear hx_
 have hl_hs49z := hs49z.len_le
 refine sM (.tuple #[u48z, I e4]) rfl <| sX [u48z, I e4] u48z rfl rfl <| sX [u48z, I e4] (I e4) rfl rfl <| sA u48z rfl <| sA (I e4) rfl <| s_nil <| W.seq <| sQ rfl <| sM (I e) rfl <| sC e 0 (e != 0) rfl rfl rfl <| sM (B (e != 0)) rfl ?_
 refine g_val (!(e != 0)) (gy_f rfl) (fun hg => x_mv (v := I e2) rfl) <| g_val (!(e != 0)) (gy_f rfl) (fun hg => x_cmp (kd := .i64) (a := e2) (b := 0) (r := e2 != 0) (gd_of (c := !(e != 0)) hg (I e2)) rfl rfl) <| s_val (x_por (b := e != 0) (r := e2 != 0) rfl rfl (fun hb => gd_of (c := !(e != 0)) (by first | exact hb | (rw [hb]; rfl) | simp_all) (B (e2 != 0)))) <| sM (B ((e != 0) || (e2 != 0))) rfl <| g_val (!((e != 0) || (e2 != 0))) (gy_f rfl) (fun hg => x_mv (v := I e3) rfl) <| g_val (!((e != 0) || (e2 != 0))) (gy_f rfl) (fun hg => x_cmp (kd := .i64) (a := e3) (b := 0) (r := e3 != 0) (gd_of (c := !((e != 0) || (e2 != 0))) hg (I e3)) rfl rfl) <| s_val (x_por (b := ((e != 0) || (e2 != 0))) (r := e3 != 0) rfl rfl (fun hb => gd_of (c := !((e != 0) || (e2 != 0))) (by first | exact hb | (rw [hb]; rfl) | simp_all) (B (e3 != 0)))) <| sM (B (((e != 0) || (e2 != 0)) || (e3 != 0))) rfl <| g_val (!(((e != 0) || (e2 != 0)) || (e3 != 0))) (gy_f rfl) (fun hg => x_mv (v := I e4) rfl) <| g_val (!(((e != 0) || (e2 != 0)) || (e3 != 0))) (gy_f rfl) (fun hg => x_cmp (kd := .i64) (a := e4) (b := 0) (r := e4 != 0) (gd_of (c := !(((e != 0) || (e2 != 0)) || (e3 != 0))) hg (I e4)) rfl rfl) <| s_val (x_por (b := (((e != 0) || (e2 != 0)) || (e3 != 0))) (r := e4 != 0) rfl rfl (fun hb => gd_of (c := !(((e != 0) || (e2 != 0)) || (e3 != 0))) (by first | exact hb | (rw [hb]; rfl) | simp_all) (B (e4 != 0)))) <| sM (B ((((e != 0) || (e2 != 0)) || (e3 != 0)) || (e4 != 0))) rfl ?_
 refine g_val (!((((e != 0) || (e2 != 0)) || (e3 != 0)) || (e4 != 0))) (gy_f rfl) (fun hg => x_mv (v := u9z) rfl) ?_
 refine t_gbs (α := Int) T34 (!((((e != 0) || (e2 != 0)) || (e3 != 0)) || (e4 != 0))) (gy_f rfl) [I 7, I 9, I 26, I 10, I 47, I 48] [(7 : Int), (9 : Int), (26 : Int), (10 : Int), (47 : Int), (48 : Int)] H (fun _ => rfl) (.cons rfl (Flat.rep_enc _ _) <| .cons rfl (Flat.rep_enc _ _) <| .cons rfl (Flat.rep_enc _ _) <| .cons rfl (Flat.rep_enc _ _) <| .cons rfl (Flat.rep_enc _ _) <| .cons rfl (Flat.rep_enc _ _) <| .nil) rfl rfl rfl ?_
 intro v53z Bs_21 w54z H hf55z
 obtain ⟨s, hx56z, hM⟩ := M.e_bind hM
 replace hx56z := M.e_pure hx56z
 refine t_gcall (!((((e != 0) || (e2 != 0)) || (e3 != 0)) || (e4 != 0))) (gy_f rfl) cf25 (B s) (fun _ => [u9z, v53z]) (fun hg => lst2 (gd_of (c := !((((e != 0) || (e2 != 0)) || (e3 != 0)) || (e4 != 0))) hg (u9z)) (gd_of (c := !((((e != 0) || (e2 != 0)) || (e3 != 0)) || (e4 != 0))) hg (v53z))) H (fun hg => Ret.mono (same_int _ (hs10z.mono (roLe _ (H.get (k := 13) rfl))) ((hf55z hg).mono (roLe _ (H.get (k := 0) rfl)))) fun v_ w_ ⟨hv_, hx_⟩ => ⟨hv_.trans (congrArg B hx56z), H.ext hx_⟩) ?_
 intro w57z H
 refine g_val (!((((e != 0) || (e2 != 0)) || (e3 != 0)) || (e4 != 0))) (gy_f rfl) (fun hg => x_not (b := s) (gd_of (c := !((((e != 0) || (e2 != 0)) || (e3 != 0)) || (e4 != 0))) hg (B s))) <| s_val (x_por (b := ((((e != 0) || (e2 != 0)) || (e3 != 0)) || (e4 != 0))) (r := !s) rfl rfl (fun hb => gd_of (c := !((((e != 0) || (e2 != 0)) || (e3 != 0)) || (e4 != 0))) (by first | exact hb | (rw [hb]; rfl) | simp_all) (B (!s)))) <| sM (B (((((e != 0) || (e2 != 0)) || (e3 != 0)) || (e4 != 0)) || (!s))) rfl <| g_val (!(((((e != 0) || (e2 != 0)) || (e3 != 0)) || (e4 != 0)) || (!s))) (gy_f rfl) (fun hg => x_mv (v := u22z) rfl) ?_
 refine t_gbs (α := Int) T34 (!(((((e != 0) || (e2 != 0)) || (e3 != 0)) || (e4 != 0)) || (!s))) (gy_f rfl) [I 0, I 2, I 4, I 5] [(0 : Int), (2 : Int), (4 : Int), (5 : Int)] H (fun _ => rfl) (.cons rfl (Flat.rep_enc _ _) <| .cons rfl (Flat.rep_enc _ _) <| .cons rfl (Flat.rep_enc _ _) <| .cons rfl (Flat.rep_enc _ _) <| .nil) rfl rfl rfl ?_
 intro v58z Bs_22 w59z H hf60z
 obtain ⟨s2, hx61z, hM⟩ := M.e_bind hM
 replace hx61z := M.e_pure hx61z
 refine t_gcall (!(((((e != 0) || (e2 != 0)) || (e3 != 0)) || (e4 != 0)) || (!s))) (gy_f rfl) cf25 (B s2) (fun _ => [u22z, v58z]) (fun hg => lst2 (gd_of (c := !(((((e != 0) || (e2 != 0)) || (e3 != 0)) || (e4 != 0)) || (!s))) hg (u22z)) (gd_of (c := !(((((e != 0) || (e2 != 0)) || (e3 != 0)) || (e4 != 0)) || (!s))) hg (v58z))) H (fun hg => Ret.mono (same_int _ (hs23z.mono (roLe _ (H.get (k := 10) rfl))) ((hf60z hg).mono (roLe _ (H.get (k := 0) rfl)))) fun v_ w_ ⟨hv_, hx_⟩ => ⟨hv_.trans (congrArg B hx61z), H.ext hx_⟩) ?_
 intro w62z H
 refine g_val (!(((((e != 0) || (e2 != 0)) || (e3 != 0)) || (e4 != 0)) || (!s))) (gy_f rfl) (fun hg => x_not (b := s2) (gd_of (c := !(((((e != 0) || (e2 != 0)) || (e3 != 0)) || (e4 != 0)) || (!s))) hg (B s2))) <| s_val (x_por (b := (((((e != 0) || (e2 != 0)) || (e3 != 0)) || (e4 != 0)) || (!s))) (r := !s2) rfl rfl (fun hb => gd_of (c := !(((((e != 0) || (e2 != 0)) || (e3 != 0)) || (e4 != 0)) || (!s))) (by first | exact hb | (rw [hb]; rfl) | simp_all) (B (!s2)))) <| sM (B ((((((e != 0) || (e2 != 0)) || (e3 != 0)) || (e4 != 0)) || (!s)) || (!s2))) rfl <| g_val (!((((((e != 0) || (e2 != 0)) || (e3 != 0)) || (e4 != 0)) || (!s)) || (!s2))) (gy_f rfl) (fun hg => x_mv (v := u35z) rfl) ?_
 refine t_gbs (α := Int) T34 (!((((((e != 0) || (e2 != 0)) || (e3 != 0)) || (e4 != 0)) || (!s)) || (!s2))) (gy_f rfl) [I (-1), I 6, I 16, I 36, I 56, I 57] [(-1 : Int), (6 : Int), (16 : Int), (36 : Int), (56 : Int), (57 : Int)] H (fun _ => rfl) (.cons rfl (Flat.rep_enc _ _) <| .cons rfl (Flat.rep_enc _ _) <| .cons rfl (Flat.rep_enc _ _) <| .cons rfl (Flat.rep_enc _ _) <| .cons rfl (Flat.rep_enc _ _) <| .cons rfl (Flat.rep_enc _ _) <| .nil) rfl rfl rfl ?_
 intro v63z Bs_23 w64z H hf65z
 obtain ⟨s3, hx66z, hM⟩ := M.e_bind hM
 replace hx66z := M.e_pure hx66z
 refine t_gcall (!((((((e != 0) || (e2 != 0)) || (e3 != 0)) || (e4 != 0)) || (!s)) || (!s2))) (gy_f rfl) cf25 (B s3) (fun _ => [u35z, v63z]) (fun hg => lst2 (gd_of (c := !((((((e != 0) || (e2 != 0)) || (e3 != 0)) || (e4 != 0)) || (!s)) || (!s2))) hg (u35z)) (gd_of (c := !((((((e != 0) || (e2 != 0)) || (e3 != 0)) || (e4 != 0)) || (!s)) || (!s2))) hg (v63z))) H (fun hg => Ret.mono (same_int _ (hs36z.mono (roLe _ (H.get (k := 7) rfl))) ((hf65z hg).mono (roLe _ (H.get (k := 0) rfl)))) fun v_ w_ ⟨hv_, hx_⟩ => ⟨hv_.trans (congrArg B hx66z), H.ext hx_⟩) ?_
 intro w67z H
 refine g_val (!((((((e != 0) || (e2 != 0)) || (e3 != 0)) || (e4 != 0)) || (!s)) || (!s2))) (gy_f rfl) (fun hg => x_not (b := s3) (gd_of (c := !((((((e != 0) || (e2 != 0)) || (e3 != 0)) || (e4 != 0)) || (!s)) || (!s2))) hg (B s3))) <| s_val (x_por (b := ((((((e != 0) || (e2 != 0)) || (e3 != 0)) || (e4 != 0)) || (!s)) || (!s2))) (r := !s3) rfl rfl (fun hb => gd_of (c := !((((((e != 0) || (e2 != 0)) || (e3 != 0)) || (e4 != 0)) || (!s)) || (!s2))) (by first | exact hb | (rw [hb]; rfl) | simp_all) (B (!s3)))) <| sM (B (((((((e != 0) || (e2 != 0)) || (e3 != 0)) || (e4 != 0)) || (!s)) || (!s2)) || (!s3))) rfl <| g_val (!(((((((e != 0) || (e2 != 0)) || (e3 != 0)) || (e4 != 0)) || (!s)) || (!s2)) || (!s3))) (gy_f rfl) (fun hg => x_mv (v := u48z) rfl) ?_
 refine t_gbs (α := Int) T34 (!(((((((e != 0) || (e2 != 0)) || (e3 != 0)) || (e4 != 0)) || (!s)) || (!s2)) || (!s3))) (gy_f rfl) [I 0, I 2, I 4, I 5] [(0 : Int), (2 : Int), (4 : Int), (5 : Int)] H (fun _ => rfl) (.cons rfl (Flat.rep_enc _ _) <| .cons rfl (Flat.rep_enc _ _) <| .cons rfl (Flat.rep_enc _ _) <| .cons rfl (Flat.rep_enc _ _) <| .nil) rfl rfl rfl ?_
 intro v68z Bs_24 w69z H hf70z
 obtain ⟨s4, hx71z, hM⟩ := M.e_bind hM
 replace hx71z := M.e_pure hx71z
 refine t_gcall (!(((((((e != 0) || (e2 != 0)) || (e3 != 0)) || (e4 != 0)) || (!s)) || (!s2)) || (!s3))) (gy_f rfl) cf25 (B s4) (fun _ => [u48z, v68z]) (fun hg => lst2 (gd_of (c := !(((((((e != 0) || (e2 != 0)) || (e3 != 0)) || (e4 != 0)) || (!s)) || (!s2)) || (!s3))) hg (u48z)) (gd_of (c := !(((((((e != 0) || (e2 != 0)) || (e3 != 0)) || (e4 != 0)) || (!s)) || (!s2)) || (!s3))) hg (v68z))) H (fun hg => Ret.mono (same_int _ (hs49z.mono (roLe _ (H.get (k := 4) rfl))) ((hf70z hg).mono (roLe _ (H.get (k := 0) rfl)))) fun v_ w_ ⟨hv_, hx_⟩ => ⟨hv_.trans (congrArg B hx71z), H.ext hx_⟩) ?_
 intro w72z H
 refine g_val (!(((((((e != 0) || (e2 != 0)) || (e3 != 0)) || (e4 != 0)) || (!s)) || (!s2)) || (!s3))) (gy_f rfl) (fun hg => x_not (b := s4) (gd_of (c := !(((((((e != 0) || (e2 != 0)) || (e3 != 0)) || (e4 != 0)) || (!s)) || (!s2)) || (!s3))) hg (B s4))) <| s_val (x_por (b := (((((((e != 0) || (e2 != 0)) || (e3 != 0)) || (e4 != 0)) || (!s)) || (!s2)) || (!s3))) (r := !s4) rfl rfl (fun hb => gd_of (c := !(((((((e != 0) || (e2 != 0)) || (e3 != 0)) || (e4 != 0)) || (!s)) || (!s2)) || (!s3))) (by first | exact hb | (rw [hb]; rfl) | simp_all) (B (!s4)))) <| s_nil ?_
 refine W.cond ((((((((e != 0) || (e2 != 0)) || (e3 != 0)) || (e4 != 0)) || (!s)) || (!s2)) || (!s3)) || (!s4)) rfl (fun c73z => ?_) (fun c73z => ?_)
 ·replace hM := M.e_t hM c73z
  refine sQ rfl <| sA (B false) rfl <| s_nil ?_
  refine W.ret ?_
  have hr_ := M.e_pure hM
  exact ⟨_, resE_tmp rfl, ⟨false, hr_, rfl, (H.pick [] (by decide) rfl)⟩⟩
 replace hM := M.e_f hM c73z
 refine W.skip <| sQ rfl ?_
 obtain ⟨r75z, hx74z, hM⟩ := M.e_bind hM
 refine s_call cf79 [] rfl (nilometerlaw13_Six_ok hx74z _ (St.give (T := [cRo Bs_24, cRo Bs_23, cRo Bs_22, cRo Bs_21, cRo Bs_20, cOwn (α := Int) 3 v45z ([(0 : Int)]), cOwn (α := Raw 2) 60 u0_16 rr1_17, cRo Bs2_18, cRo Bs_15, cOwn (α := Int) 3 v32z ([(1 : Int)]), cOwn (α := Raw 2) 60 u0_11 rr1_12, cRo Bs2_13, cRo Bs_10, cOwn (α := Int) 3 v19z ([(0 : Int)]), cOwn (α := Raw 2) 60 u0_6 rr1_7, cRo Bs2_8, cRo Bs_5, cOwn (α := Note) 30 v6z ([(⟨(0 : Int), (2 : Int), (7 : Int)⟩ : Note), (⟨(1 : Int), (0 : Int), (9 : Int)⟩ : Note)]), cOwn (α := Raw 2) 60 u0_1 rr1_2, cRo Bs2_3]) H rfl)) ?_
 rintro vq w76z ⟨r6, u0_25, rr1_26, Bs2_27, hr77z, hvq, H2_, hf78z⟩
 subst hr77z
 subst vq
 try dsimp only at hM
 replace H : St w w76z [cOwn (α := Raw 2) 60 u0_25 rr1_26, cRo Bs2_27, cRo Bs_24, cRo Bs_23, cRo Bs_22, cRo Bs_21, cRo Bs_20, cOwn (α := Int) 3 v45z ([(0 : Int)]), cOwn (α := Raw 2) 60 u0_16 rr1_17, cRo Bs2_18, cRo Bs_15, cOwn (α := Int) 3 v32z ([(1 : Int)]), cOwn (α := Raw 2) 60 u0_11 rr1_12, cRo Bs2_13, cRo Bs_10, cOwn (α := Int) 3 v19z ([(0 : Int)]), cOwn (α := Raw 2) 60 u0_6 rr1_7, cRo Bs2_8, cRo Bs_5, cOwn (α := Note) 30 v6z ([(⟨(0 : Int), (2 : Int), (7 : Int)⟩ : Note), (⟨(1 : Int), (0 : Int), (9 : Int)⟩ : Note)]), cOwn (α := Raw 2) 60 u0_1 rr1_2, cRo Bs2_3] R := H.back H2_ rfl
 clear H2_
 refine t_bs (α := Int) T34 [I 0] [(0 : Int)] H rfl (.cons rfl (Flat.rep_enc _ (0 : Int)) <| .nil) rfl rfl rfl ?_
 intro v79z w80z H
 refine t_bs (α := Int) T34 [I 0, I 2, I 4, I 5] [(0 : Int), (2 : Int), (4 : Int), (5 : Int)] H rfl (.cons rfl (Flat.rep_enc _ (0 : Int)) <| .cons rfl (Flat.rep_enc _ (2 : Int)) <| .cons rfl (Flat.rep_enc _ (4 : Int)) <| .cons rfl (Flat.rep_enc _ (5 : Int)) <| .nil) rfl rfl rfl ?_
 intro v81z w82z H
 obtain ⟨r84z, hx83z, hM⟩ := M.e_bind hM
 refine s_call cf34 [u0_25, v79z, v81z] rfl (notes_Fences_ok r6 ([(0 : Int)]) ([(0 : Int), (2 : Int), (4 : Int), (5 : Int)]) (Reads.sup (Reads.of (k := 2) rfl ownLe) (Reads.of (k := 3) rfl roLe)) (rowSl rfl (H.get (k := 2) rfl) (roLe _ (H.get (k := 3) rfl)) hf78z) (Reads.of (k := 1) rfl ownLe) (ownSl (H.get (k := 1) rfl)) (Reads.of (k := 0) rfl ownLe) (ownSl (H.get (k := 0) rfl)) hx83z _ (St.give (T := [cOwn (α := Int) 3 v81z ([(0 : Int), (2 : Int), (4 : Int), (5 : Int)]), cOwn (α := Int) 3 v79z ([(0 : Int)]), cOwn (α := Raw 2) 60 u0_25 rr1_26, cRo Bs2_27, cRo Bs_24, cRo Bs_23, cRo Bs_22, cRo Bs_21, cRo Bs_20, cOwn (α := Int) 3 v45z ([(0 : Int)]), cOwn (α := Raw 2) 60 u0_16 rr1_17, cRo Bs2_18, cRo Bs_15, cOwn (α := Int) 3 v32z ([(1 : Int)]), cOwn (α := Raw 2) 60 u0_11 rr1_12, cRo Bs2_13, cRo Bs_10, cOwn (α := Int) 3 v19z ([(0 : Int)]), cOwn (α := Raw 2) 60 u0_6 rr1_7, cRo Bs2_8, cRo Bs_5, cOwn (α := Note) 30 v6z ([(⟨(0 : Int), (2 : Int), (7 : Int)⟩ : Note), (⟨(1 : Int), (0 : Int), (9 : Int)⟩ : Note)]), cOwn (α := Raw 2) 60 u0_1 rr1_2, cRo Bs2_3]) H rfl)) ?_
 rintro vq w85z ⟨r0, r1, hr86z, hvq, H2_⟩
 subst hr86z
 subst vq
 try dsimp only at hM
 replace H : St w w85z [cOwn (α := Int) 3 v81z ([(0 : Int), (2 : Int), (4 : Int), (5 : Int)]), cOwn (α := Int) 3 v79z ([(0 : Int)]), cOwn (α := Raw 2) 60 u0_25 rr1_26, cRo Bs2_27, cRo Bs_24, cRo Bs_23, cRo Bs_22, cRo Bs_21, cRo Bs_20, cOwn (α := Int) 3 v45z ([(0 : Int)]), cOwn (α := Raw 2) 60 u0_16 rr1_17, cRo Bs2_18, cRo Bs_15, cOwn (α := Int) 3 v32z ([(1 : Int)]), cOwn (α := Raw 2) 60 u0_11 rr1_12, cRo Bs2_13, cRo Bs_10, cOwn (α := Int) 3 v19z ([(0 : Int)]), cOwn (α := Raw 2) 60 u0_6 rr1_7, cRo Bs2_8, cRo Bs_5, cOwn (α := Note) 30 v6z ([(⟨(0 : Int), (2 : Int), (7 : Int)⟩ : Note), (⟨(1 : Int), (0 : Int), (9 : Int)⟩ : Note)]), cOwn (α := Raw 2) 60 u0_1 rr1_2, cRo Bs2_3] R := H.back H2_ rfl
 clear H2_
 refine sM (.tuple #[B r0, I r1]) rfl <| sX [B r0, I r1] (B r0) rfl rfl <| sX [B r0, I r1] (I r1) rfl rfl <| sA (B r0) rfl <| sA (I r1) rfl <| s_nil <| sQ rfl ?_
 obtain ⟨r88z, hx87z, hM⟩ := M.e_bind hM
 refine s_call cf79 [] rfl (nilometerlaw13_Six_ok hx87z _ (St.give (T := [cOwn (α := Int) 3 v81z ([(0 : Int), (2 : Int), (4 : Int), (5 : Int)]), cOwn (α := Int) 3 v79z ([(0 : Int)]), cOwn (α := Raw 2) 60 u0_25 rr1_26, cRo Bs2_27, cRo Bs_24, cRo Bs_23, cRo Bs_22, cRo Bs_21, cRo Bs_20, cOwn (α := Int) 3 v45z ([(0 : Int)]), cOwn (α := Raw 2) 60 u0_16 rr1_17, cRo Bs2_18, cRo Bs_15, cOwn (α := Int) 3 v32z ([(1 : Int)]), cOwn (α := Raw 2) 60 u0_11 rr1_12, cRo Bs2_13, cRo Bs_10, cOwn (α := Int) 3 v19z ([(0 : Int)]), cOwn (α := Raw 2) 60 u0_6 rr1_7, cRo Bs2_8, cRo Bs_5, cOwn (α := Note) 30 v6z ([(⟨(0 : Int), (2 : Int), (7 : Int)⟩ : Note), (⟨(1 : Int), (0 : Int), (9 : Int)⟩ : Note)]), cOwn (α := Raw 2) 60 u0_1 rr1_2, cRo Bs2_3]) H rfl)) ?_
 rintro vq w89z ⟨r7, u0_30, rr1_31, Bs2_32, hr90z, hvq, H2_, hf91z⟩
 subst hr90z
 subst vq
 try dsimp only at hM
 replace H : St w w89z [cOwn (α := Raw 2) 60 u0_30 rr1_31, cRo Bs2_32, cOwn (α := Int) 3 v81z ([(0 : Int), (2 : Int), (4 : Int), (5 : Int)]), cOwn (α := Int) 3 v79z ([(0 : Int)]), cOwn (α := Raw 2) 60 u0_25 rr1_26, cRo Bs2_27, cRo Bs_24, cRo Bs_23, cRo Bs_22, cRo Bs_21, cRo Bs_20, cOwn (α := Int) 3 v45z ([(0 : Int)]), cOwn (α := Raw 2) 60 u0_16 rr1_17, cRo Bs2_18, cRo Bs_15, cOwn (α := Int) 3 v32z ([(1 : Int)]), cOwn (α := Raw 2) 60 u0_11 rr1_12, cRo Bs2_13, cRo Bs_10, cOwn (α := Int) 3 v19z ([(0 : Int)]), cOwn (α := Raw 2) 60 u0_6 rr1_7, cRo Bs2_8, cRo Bs_5, cOwn (α := Note) 30 v6z ([(⟨(0 : Int), (2 : Int), (7 : Int)⟩ : Note), (⟨(1 : Int), (0 : Int), (9 : Int)⟩ : Note)]), cOwn (α := Raw 2) 60 u0_1 rr1_2, cRo Bs2_3] R := H.back H2_ rfl
 clear H2_
 refine t_bs (α := Int) T34 [I 0] [(0 : Int)] H rfl (.cons rfl (Flat.rep_enc _ (0 : Int)) <| .nil) rfl rfl rfl ?_
 intro v92z w93z H
 refine t_bs (α := Int) T34 [I 0, I 2, I 4] [(0 : Int), (2 : Int), (4 : Int)] H rfl (.cons rfl (Flat.rep_enc _ (0 : Int)) <| .cons rfl (Flat.rep_enc _ (2 : Int)) <| .cons rfl (Flat.rep_enc _ (4 : Int)) <| .nil) rfl rfl rfl ?_
 intro v94z w95z H
 obtain ⟨r97z, hx96z, hM⟩ := M.e_bind hM
 refine s_call cf34 [u0_30, v92z, v94z] rfl (notes_Fences_ok r7 ([(0 : Int)]) ([(0 : Int), (2 : Int), (4 : Int)]) (Reads.sup (Reads.of (k := 2) rfl ownLe) (Reads.of (k := 3) rfl roLe)) (rowSl rfl (H.get (k := 2) rfl) (roLe _ (H.get (k := 3) rfl)) hf91z) (Reads.of (k := 1) rfl ownLe) (ownSl (H.get (k := 1) rfl)) (Reads.of (k := 0) rfl ownLe) (ownSl (H.get (k := 0) rfl)) hx96z _ (St.give (T := [cOwn (α := Int) 3 v94z ([(0 : Int), (2 : Int), (4 : Int)]), cOwn (α := Int) 3 v92z ([(0 : Int)]), cOwn (α := Raw 2) 60 u0_30 rr1_31, cRo Bs2_32, cOwn (α := Int) 3 v81z ([(0 : Int), (2 : Int), (4 : Int), (5 : Int)]), cOwn (α := Int) 3 v79z ([(0 : Int)]), cOwn (α := Raw 2) 60 u0_25 rr1_26, cRo Bs2_27, cRo Bs_24, cRo Bs_23, cRo Bs_22, cRo Bs_21, cRo Bs_20, cOwn (α := Int) 3 v45z ([(0 : Int)]), cOwn (α := Raw 2) 60 u0_16 rr1_17, cRo Bs2_18, cRo Bs_15, cOwn (α := Int) 3 v32z ([(1 : Int)]), cOwn (α := Raw 2) 60 u0_11 rr1_12, cRo Bs2_13, cRo Bs_10, cOwn (α := Int) 3 v19z ([(0 : Int)]), cOwn (α := Raw 2) 60 u0_6 rr1_7, cRo Bs2_8, cRo Bs_5, cOwn (α := Note) 30 v6z ([(⟨(0 : Int), (2 : Int), (7 : Int)⟩ : Note), (⟨(1 : Int), (0 : Int), (9 : Int)⟩ : Note)]), cOwn (α := Raw 2) 60 u0_1 rr1_2, cRo Bs2_3]) H rfl)) ?_
 rintro vq w98z ⟨r02, r12, hr99z, hvq, H2_⟩
 subst hr99z
 subst vq
 try dsimp only at hM
 replace H : St w w98z [cOwn (α := Int) 3 v94z ([(0 : Int), (2 : Int), (4 : Int)]), cOwn (α := Int) 3 v92z ([(0 : Int)]), cOwn (α := Raw 2) 60 u0_30 rr1_31, cRo Bs2_32, cOwn (α := Int) 3 v81z ([(0 : Int), (2 : Int), (4 : Int), (5 : Int)]), cOwn (α := Int) 3 v79z ([(0 : Int)]), cOwn (α := Raw 2) 60 u0_25 rr1_26, cRo Bs2_27, cRo Bs_24, cRo Bs_23, cRo Bs_22, cRo Bs_21, cRo Bs_20, cOwn (α := Int) 3 v45z ([(0 : Int)]), cOwn (α := Raw 2) 60 u0_16 rr1_17, cRo Bs2_18, cRo Bs_15, cOwn (α := Int) 3 v32z ([(1 : Int)]), cOwn (α := Raw 2) 60 u0_11 rr1_12, cRo Bs2_13, cRo Bs_10, cOwn (α := Int) 3 v19z ([(0 : Int)]), cOwn (α := Raw 2) 60 u0_6 rr1_7, cRo Bs2_8, cRo Bs_5, cOwn (α := Note) 30 v6z ([(⟨(0 : Int), (2 : Int), (7 : Int)⟩ : Note), (⟨(1 : Int), (0 : Int), (9 : Int)⟩ : Note)]), cOwn (α := Raw 2) 60 u0_1 rr1_2, cRo Bs2_3] R := H.back H2_ rfl
 clear H2_
 refine sM (.tuple #[B r02, I r12]) rfl <| sX [B r02, I r12] (B r02) rfl rfl <| sX [B r02, I r12] (I r12) rfl rfl <| sA (B r02) rfl <| sA (I r12) rfl <| s_nil <| sQ rfl ?_
 obtain ⟨r101z, hx100z, hM⟩ := M.e_bind hM
 refine s_call cf79 [] rfl (nilometerlaw13_Six_ok hx100z _ (St.give (T := [cOwn (α := Int) 3 v94z ([(0 : Int), (2 : Int), (4 : Int)]), cOwn (α := Int) 3 v92z ([(0 : Int)]), cOwn (α := Raw 2) 60 u0_30 rr1_31, cRo Bs2_32, cOwn (α := Int) 3 v81z ([(0 : Int), (2 : Int), (4 : Int), (5 : Int)]), cOwn (α := Int) 3 v79z ([(0 : Int)]), cOwn (α := Raw 2) 60 u0_25 rr1_26, cRo Bs2_27, cRo Bs_24, cRo Bs_23, cRo Bs_22, cRo Bs_21, cRo Bs_20, cOwn (α := Int) 3 v45z ([(0 : Int)]), cOwn (α := Raw 2) 60 u0_16 rr1_17, cRo Bs2_18, cRo Bs_15, cOwn (α := Int) 3 v32z ([(1 : Int)]), cOwn (α := Raw 2) 60 u0_11 rr1_12, cRo Bs2_13, cRo Bs_10, cOwn (α := Int) 3 v19z ([(0 : Int)]), cOwn (α := Raw 2) 60 u0_6 rr1_7, cRo Bs2_8, cRo Bs_5, cOwn (α := Note) 30 v6z ([(⟨(0 : Int), (2 : Int), (7 : Int)⟩ : Note), (⟨(1 : Int), (0 : Int), (9 : Int)⟩ : Note)]), cOwn (α := Raw 2) 60 u0_1 rr1_2, cRo Bs2_3]) H rfl)) ?_
 rintro vq w102z ⟨r8, u0_35, rr1_36, Bs2_37, hr103z, hvq, H2_, hf104z⟩
 subst hr103z
 subst vq
 try dsimp only at hM
 replace H : St w w102z [cOwn (α := Raw 2) 60 u0_35 rr1_36, cRo Bs2_37, cOwn (α := Int) 3 v94z ([(0 : Int), (2 : Int), (4 : Int)]), cOwn (α := Int) 3 v92z ([(0 : Int)]), cOwn (α := Raw 2) 60 u0_30 rr1_31, cRo Bs2_32, cOwn (α := Int) 3 v81z ([(0 : Int), (2 : Int), (4 : Int), (5 : Int)]), cOwn (α := Int) 3 v79z ([(0 : Int)]), cOwn (α := Raw 2) 60 u0_25 rr1_26, cRo Bs2_27, cRo Bs_24, cRo Bs_23, cRo Bs_22, cRo Bs_21, cRo Bs_20, cOwn (α := Int) 3 v45z ([(0 : Int)]), cOwn (α := Raw 2) 60 u0_16 rr1_17, cRo Bs2_18, cRo Bs_15, cOwn (α := Int) 3 v32z ([(1 : Int)]), cOwn (α := Raw 2) 60 u0_11 rr1_12, cRo Bs2_13, cRo Bs_10, cOwn (α := Int) 3 v19z ([(0 : Int)]), cOwn (α := Raw 2) 60 u0_6 rr1_7, cRo Bs2_8, cRo Bs_5, cOwn (α := Note) 30 v6z ([(⟨(0 : Int), (2 : Int), (7 : Int)⟩ : Note), (⟨(1 : Int), (0 : Int), (9 : Int)⟩ : Note)]), cOwn (α := Raw 2) 60 u0_1 rr1_2, cRo Bs2_3] R := H.back H2_ rfl
 clear H2_
 refine t_bs (α := Int) T34 [I 1] [(1 : Int)] H rfl (.cons rfl (Flat.rep_enc _ (1 : Int)) <| .nil) rfl rfl rfl ?_
 intro v105z w106z H
 obtain ⟨r108z, hx107z, hM⟩ := M.e_bind hM
 refine s_call cf64 [u0_35, v105z, I 4] rfl (notes_Freeze_ok r8 ([(1 : Int)]) 4 (Reads.sup (Reads.of (k := 1) rfl ownLe) (Reads.of (k := 2) rfl roLe)) (rowSl rfl (H.get (k := 1) rfl) (roLe _ (H.get (k := 2) rfl)) hf104z) (Reads.of (k := 0) rfl ownLe) (ownSl (H.get (k := 0) rfl)) hx107z _ (St.give (T := [cOwn (α := Int) 3 v105z ([(1 : Int)]), cOwn (α := Raw 2) 60 u0_35 rr1_36, cRo Bs2_37, cOwn (α := Int) 3 v94z ([(0 : Int), (2 : Int), (4 : Int)]), cOwn (α := Int) 3 v92z ([(0 : Int)]), cOwn (α := Raw 2) 60 u0_30 rr1_31, cRo Bs2_32, cOwn (α := Int) 3 v81z ([(0 : Int), (2 : Int), (4 : Int), (5 : Int)]), cOwn (α := Int) 3 v79z ([(0 : Int)]), cOwn (α := Raw 2) 60 u0_25 rr1_26, cRo Bs2_27, cRo Bs_24, cRo Bs_23, cRo Bs_22, cRo Bs_21, cRo Bs_20, cOwn (α := Int) 3 v45z ([(0 : Int)]), cOwn (α := Raw 2) 60 u0_16 rr1_17, cRo Bs2_18, cRo Bs_15, cOwn (α := Int) 3 v32z ([(1 : Int)]), cOwn (α := Raw 2) 60 u0_11 rr1_12, cRo Bs2_13, cRo Bs_10, cOwn (α := Int) 3 v19z ([(0 : Int)]), cOwn (α := Raw 2) 60 u0_6 rr1_7, cRo Bs2_8, cRo Bs_5, cOwn (α := Note) 30 v6z ([(⟨(0 : Int), (2 : Int), (7 : Int)⟩ : Note), (⟨(1 : Int), (0 : Int), (9 : Int)⟩ : Note)]), cOwn (α := Raw 2) 60 u0_1 rr1_2, cRo Bs2_3]) H rfl)) ?_
 rintro vq w109z ⟨r03, r13, u0_39, hr110z, hvq, H2_⟩
 subst hr110z
 subst vq
 try dsimp only at hM
 replace H : St w w109z [cOwn (α := Int) 3 u0_39 r03, cOwn (α := Int) 3 v105z ([(1 : Int)]), cOwn (α := Raw 2) 60 u0_35 rr1_36, cRo Bs2_37, cOwn (α := Int) 3 v94z ([(0 : Int), (2 : Int), (4 : Int)]), cOwn (α := Int) 3 v92z ([(0 : Int)]), cOwn (α := Raw 2) 60 u0_30 rr1_31, cRo Bs2_32, cOwn (α := Int) 3 v81z ([(0 : Int), (2 : Int), (4 : Int), (5 : Int)]), cOwn (α := Int) 3 v79z ([(0 : Int)]), cOwn (α := Raw 2) 60 u0_25 rr1_26, cRo Bs2_27, cRo Bs_24, cRo Bs_23, cRo Bs_22, cRo Bs_21, cRo Bs_20, cOwn (α := Int) 3 v45z ([(0 : Int)]), cOwn (α := Raw 2) 60 u0_16 rr1_17, cRo Bs2_18, cRo Bs_15, cOwn (α := Int) 3 v32z ([(1 : Int)]), cOwn (α := Raw 2) 60 u0_11 rr1_12, cRo Bs2_13, cRo Bs_10, cOwn (α := Int) 3 v19z ([(0 : Int)]), cOwn (α := Raw 2) 60 u0_6 rr1_7, cRo Bs2_8, cRo Bs_5, cOwn (α := Note) 30 v6z ([(⟨(0 : Int), (2 : Int), (7 : Int)⟩ : Note), (⟨(1 : Int), (0 : Int), (9 : Int)⟩ : Note)]), cOwn (α := Raw 2) 60 u0_1 rr1_2, cRo Bs2_3] R := H.back H2_ rfl
 clear H2_
 refine sM (.tuple #[u0_39, I r13]) rfl <| sX [u0_39, I r13] u0_39 rfl rfl <| sX [u0_39, I r13] (I r13) rfl rfl <| sA u0_39 rfl <| sA (I r13) rfl <| s_nil <| sQ rfl ?_
 obtain ⟨r112z, hx111z, hM⟩ := M.e_bind hM
 refine s_call cf79 [] rfl (nilometerlaw13_Six_ok hx111z _ (St.give (T := [cOwn (α := Int) 3 u0_39 r03, cOwn (α := Int) 3 v105z ([(1 : Int)]), cOwn (α := Raw 2) 60 u0_35 rr1_36, cRo Bs2_37, cOwn (α := Int) 3 v94z ([(0 : Int), (2 : Int), (4 : Int)]), cOwn (α := Int) 3 v92z ([(0 : Int)]), cOwn (α := Raw 2) 60 u0_30 rr1_31, cRo Bs2_32, cOwn (α := Int) 3 v81z ([(0 : Int), (2 : Int), (4 : Int), (5 : Int)]), cOwn (α := Int) 3 v79z ([(0 : Int)]), cOwn (α := Raw 2) 60 u0_25 rr1_26, cRo Bs2_27, cRo Bs_24, cRo Bs_23, cRo Bs_22, cRo Bs_21, cRo Bs_20, cOwn (α := Int) 3 v45z ([(0 : Int)]), cOwn (α := Raw 2) 60 u0_16 rr1_17, cRo Bs2_18, cRo Bs_15, cOwn (α := Int) 3 v32z ([(1 : Int)]), cOwn (α := Raw 2) 60 u0_11 rr1_12, cRo Bs2_13, cRo Bs_10, cOwn (α := Int) 3 v19z ([(0 : Int)]), cOwn (α := Raw 2) 60 u0_6 rr1_7, cRo Bs2_8, cRo Bs_5, cOwn (α := Note) 30 v6z ([(⟨(0 : Int), (2 : Int), (7 : Int)⟩ : Note), (⟨(1 : Int), (0 : Int), (9 : Int)⟩ : Note)]), cOwn (α := Raw 2) 60 u0_1 rr1_2, cRo Bs2_3]) H rfl)) ?_
 rintro vq w113z ⟨r9, u0_40, rr1_41, Bs2_42, hr114z, hvq, H2_, hf115z⟩
 subst hr114z
 subst vq
 try dsimp only at hM
 replace H : St w w113z [cOwn (α := Raw 2) 60 u0_40 rr1_41, cRo Bs2_42, cOwn (α := Int) 3 u0_39 r03, cOwn (α := Int) 3 v105z ([(1 : Int)]), cOwn (α := Raw 2) 60 u0_35 rr1_36, cRo Bs2_37, cOwn (α := Int) 3 v94z ([(0 : Int), (2 : Int), (4 : Int)]), cOwn (α := Int) 3 v92z ([(0 : Int)]), cOwn (α := Raw 2) 60 u0_30 rr1_31, cRo Bs2_32, cOwn (α := Int) 3 v81z ([(0 : Int), (2 : Int), (4 : Int), (5 : Int)]), cOwn (α := Int) 3 v79z ([(0 : Int)]), cOwn (α := Raw 2) 60 u0_25 rr1_26, cRo Bs2_27, cRo Bs_24, cRo Bs_23, cRo Bs_22, cRo Bs_21, cRo Bs_20, cOwn (α := Int) 3 v45z ([(0 : Int)]), cOwn (α := Raw 2) 60 u0_16 rr1_17, cRo Bs2_18, cRo Bs_15, cOwn (α := Int) 3 v32z ([(1 : Int)]), cOwn (α := Raw 2) 60 u0_11 rr1_12, cRo Bs2_13, cRo Bs_10, cOwn (α := Int) 3 v19z ([(0 : Int)]), cOwn (α := Raw 2) 60 u0_6 rr1_7, cRo Bs2_8, cRo Bs_5, cOwn (α := Note) 30 v6z ([(⟨(0 : Int), (2 : Int), (7 : Int)⟩ : Note), (⟨(1 : Int), (0 : Int), (9 : Int)⟩ : Note)]), cOwn (α := Raw 2) 60 u0_1 rr1_2, cRo Bs2_3] R := H.back H2_ rfl
 clear H2_
 refine t_bs (α := Int) T34 [I 1] [(1 : Int)] H rfl (.cons rfl (Flat.rep_enc _ (1 : Int)) <| .nil) rfl rfl rfl ?_
 intro v116z w117z H
 obtain ⟨r119z, hx118z, hM⟩ := M.e_bind hM
 refine s_call cf65 [u0_40, v116z, I 4] rfl (notes_Lines_ok r9 ([(1 : Int)]) 4 (Reads.sup (Reads.of (k := 1) rfl ownLe) (Reads.of (k := 2) rfl roLe)) (rowSl rfl (H.get (k := 1) rfl) (roLe _ (H.get (k := 2) rfl)) hf115z) (Reads.of (k := 0) rfl ownLe) (ownSl (H.get (k := 0) rfl)) hx118z _ (St.give (T := [cOwn (α := Int) 3 v116z ([(1 : Int)]), cOwn (α := Raw 2) 60 u0_40 rr1_41, cRo Bs2_42, cOwn (α := Int) 3 u0_39 r03, cOwn (α := Int) 3 v105z ([(1 : Int)]), cOwn (α := Raw 2) 60 u0_35 rr1_36, cRo Bs2_37, cOwn (α := Int) 3 v94z ([(0 : Int), (2 : Int), (4 : Int)]), cOwn (α := Int) 3 v92z ([(0 : Int)]), cOwn (α := Raw 2) 60 u0_30 rr1_31, cRo Bs2_32, cOwn (α := Int) 3 v81z ([(0 : Int), (2 : Int), (4 : Int), (5 : Int)]), cOwn (α := Int) 3 v79z ([(0 : Int)]), cOwn (α := Raw 2) 60 u0_25 rr1_26, cRo Bs2_27, cRo Bs_24, cRo Bs_23, cRo Bs_22, cRo Bs_21, cRo Bs_20, cOwn (α := Int) 3 v45z ([(0 : Int)]), cOwn (α := Raw 2) 60 u0_16 rr1_17, cRo Bs2_18, cRo Bs_15, cOwn (α := Int) 3 v32z ([(1 : Int)]), cOwn (α := Raw 2) 60 u0_11 rr1_12, cRo Bs2_13, cRo Bs_10, cOwn (α := Int) 3 v19z ([(0 : Int)]), cOwn (α := Raw 2) 60 u0_6 rr1_7, cRo Bs2_8, cRo Bs_5, cOwn (α := Note) 30 v6z ([(⟨(0 : Int), (2 : Int), (7 : Int)⟩ : Note), (⟨(1 : Int), (0 : Int), (9 : Int)⟩ : Note)]), cOwn (α := Raw 2) 60 u0_1 rr1_2, cRo Bs2_3]) H rfl)) ?_
 rintro vq w120z ⟨r04, r14, u0_44, rr1_45, Bs2_46, hr121z, hvq, H2_, hf122z⟩
 subst hr121z
 subst vq
 try dsimp only at hM
 replace H : St w w120z [cOwn (α := Raw 0) 34 u0_44 rr1_45, cRo Bs2_46, cOwn (α := Int) 3 v116z ([(1 : Int)]), cOwn (α := Raw 2) 60 u0_40 rr1_41, cRo Bs2_42, cOwn (α := Int) 3 u0_39 r03, cOwn (α := Int) 3 v105z ([(1 : Int)]), cOwn (α := Raw 2) 60 u0_35 rr1_36, cRo Bs2_37, cOwn (α := Int) 3 v94z ([(0 : Int), (2 : Int), (4 : Int)]), cOwn (α := Int) 3 v92z ([(0 : Int)]), cOwn (α := Raw 2) 60 u0_30 rr1_31, cRo Bs2_32, cOwn (α := Int) 3 v81z ([(0 : Int), (2 : Int), (4 : Int), (5 : Int)]), cOwn (α := Int) 3 v79z ([(0 : Int)]), cOwn (α := Raw 2) 60 u0_25 rr1_26, cRo Bs2_27, cRo Bs_24, cRo Bs_23, cRo Bs_22, cRo Bs_21, cRo Bs_20, cOwn (α := Int) 3 v45z ([(0 : Int)]), cOwn (α := Raw 2) 60 u0_16 rr1_17, cRo Bs2_18, cRo Bs_15, cOwn (α := Int) 3 v32z ([(1 : Int)]), cOwn (α := Raw 2) 60 u0_11 rr1_12, cRo Bs2_13, cRo Bs_10, cOwn (α := Int) 3 v19z ([(0 : Int)]), cOwn (α := Raw 2) 60 u0_6 rr1_7, cRo Bs2_8, cRo Bs_5, cOwn (α := Note) 30 v6z ([(⟨(0 : Int), (2 : Int), (7 : Int)⟩ : Note), (⟨(1 : Int), (0 : Int), (9 : Int)⟩ : Note)]), cOwn (α := Raw 2) 60 u0_1 rr1_2, cRo Bs2_3] R := H.back H2_ rfl
 clear H2_
 refine sM (.tuple #[u0_44, I r14]) rfl <| sX [u0_44, I r14] u0_44 rfl rfl <| sX [u0_44, I r14] (I r14) rfl rfl <| sA u0_44 rfl <| sA (I r14) rfl <| s_nil <| sQ rfl ?_
 obtain ⟨r124z, hx123z, hM⟩ := M.e_bind hM
 refine s_call cf79 [] rfl (nilometerlaw13_Six_ok hx123z _ (St.give (T := [cOwn (α := Raw 0) 34 u0_44 rr1_45, cRo Bs2_46, cOwn (α := Int) 3 v116z ([(1 : Int)]), cOwn (α := Raw 2) 60 u0_40 rr1_41, cRo Bs2_42, cOwn (α := Int) 3 u0_39 r03, cOwn (α := Int) 3 v105z ([(1 : Int)]), cOwn (α := Raw 2) 60 u0_35 rr1_36, cRo Bs2_37, cOwn (α := Int) 3 v94z ([(0 : Int), (2 : Int), (4 : Int)]), cOwn (α := Int) 3 v92z ([(0 : Int)]), cOwn (α := Raw 2) 60 u0_30 rr1_31, cRo Bs2_32, cOwn (α := Int) 3 v81z ([(0 : Int), (2 : Int), (4 : Int), (5 : Int)]), cOwn (α := Int) 3 v79z ([(0 : Int)]), cOwn (α := Raw 2) 60 u0_25 rr1_26, cRo Bs2_27, cRo Bs_24, cRo Bs_23, cRo Bs_22, cRo Bs_21, cRo Bs_20, cOwn (α := Int) 3 v45z ([(0 : Int)]), cOwn (α := Raw 2) 60 u0_16 rr1_17, cRo Bs2_18, cRo Bs_15, cOwn (α := Int) 3 v32z ([(1 : Int)]), cOwn (α := Raw 2) 60 u0_11 rr1_12, cRo Bs2_13, cRo Bs_10, cOwn (α := Int) 3 v19z ([(0 : Int)]), cOwn (α := Raw 2) 60 u0_6 rr1_7, cRo Bs2_8, cRo Bs_5, cOwn (α := Note) 30 v6z ([(⟨(0 : Int), (2 : Int), (7 : Int)⟩ : Note), (⟨(1 : Int), (0 : Int), (9 : Int)⟩ : Note)]), cOwn (α := Raw 2) 60 u0_1 rr1_2, cRo Bs2_3]) H rfl)) ?_
 rintro vq w125z ⟨r10, u0_47, rr1_48, Bs2_49, hr126z, hvq, H2_, hf127z⟩
 subst hr126z
 subst vq
 try dsimp only at hM
 replace H : St w w125z [cOwn (α := Raw 2) 60 u0_47 rr1_48, cRo Bs2_49, cOwn (α := Raw 0) 34 u0_44 rr1_45, cRo Bs2_46, cOwn (α := Int) 3 v116z ([(1 : Int)]), cOwn (α := Raw 2) 60 u0_40 rr1_41, cRo Bs2_42, cOwn (α := Int) 3 u0_39 r03, cOwn (α := Int) 3 v105z ([(1 : Int)]), cOwn (α := Raw 2) 60 u0_35 rr1_36, cRo Bs2_37, cOwn (α := Int) 3 v94z ([(0 : Int), (2 : Int), (4 : Int)]), cOwn (α := Int) 3 v92z ([(0 : Int)]), cOwn (α := Raw 2) 60 u0_30 rr1_31, cRo Bs2_32, cOwn (α := Int) 3 v81z ([(0 : Int), (2 : Int), (4 : Int), (5 : Int)]), cOwn (α := Int) 3 v79z ([(0 : Int)]), cOwn (α := Raw 2) 60 u0_25 rr1_26, cRo Bs2_27, cRo Bs_24, cRo Bs_23, cRo Bs_22, cRo Bs_21, cRo Bs_20, cOwn (α := Int) 3 v45z ([(0 : Int)]), cOwn (α := Raw 2) 60 u0_16 rr1_17, cRo Bs2_18, cRo Bs_15, cOwn (α := Int) 3 v32z ([(1 : Int)]), cOwn (α := Raw 2) 60 u0_11 rr1_12, cRo Bs2_13, cRo Bs_10, cOwn (α := Int) 3 v19z ([(0 : Int)]), cOwn (α := Raw 2) 60 u0_6 rr1_7, cRo Bs2_8, cRo Bs_5, cOwn (α := Note) 30 v6z ([(⟨(0 : Int), (2 : Int), (7 : Int)⟩ : Note), (⟨(1 : Int), (0 : Int), (9 : Int)⟩ : Note)]), cOwn (α := Raw 2) 60 u0_1 rr1_2, cRo Bs2_3] R := H.back H2_ rfl
 clear H2_
 refine t_bs (α := Int) T34 [I 1] [(1 : Int)] H rfl (.cons rfl (Flat.rep_enc _ (1 : Int)) <| .nil) rfl rfl rfl ?_
 intro v128z w129z H
 obtain ⟨r131z, hx130z, hM⟩ := M.e_bind hM
 refine s_call cf64 [u0_47, v128z, I 3] rfl (notes_Freeze_ok r10 ([(1 : Int)]) 3 (Reads.sup (Reads.of (k := 1) rfl ownLe) (Reads.of (k := 2) rfl roLe)) (rowSl rfl (H.get (k := 1) rfl) (roLe _ (H.get (k := 2) rfl)) hf127z) (Reads.of (k := 0) rfl ownLe) (ownSl (H.get (k := 0) rfl)) hx130z _ (St.give (T := [cOwn (α := Int) 3 v128z ([(1 : Int)]), cOwn (α := Raw 2) 60 u0_47 rr1_48, cRo Bs2_49, cOwn (α := Raw 0) 34 u0_44 rr1_45, cRo Bs2_46, cOwn (α := Int) 3 v116z ([(1 : Int)]), cOwn (α := Raw 2) 60 u0_40 rr1_41, cRo Bs2_42, cOwn (α := Int) 3 u0_39 r03, cOwn (α := Int) 3 v105z ([(1 : Int)]), cOwn (α := Raw 2) 60 u0_35 rr1_36, cRo Bs2_37, cOwn (α := Int) 3 v94z ([(0 : Int), (2 : Int), (4 : Int)]), cOwn (α := Int) 3 v92z ([(0 : Int)]), cOwn (α := Raw 2) 60 u0_30 rr1_31, cRo Bs2_32, cOwn (α := Int) 3 v81z ([(0 : Int), (2 : Int), (4 : Int), (5 : Int)]), cOwn (α := Int) 3 v79z ([(0 : Int)]), cOwn (α := Raw 2) 60 u0_25 rr1_26, cRo Bs2_27, cRo Bs_24, cRo Bs_23, cRo Bs_22, cRo Bs_21, cRo Bs_20, cOwn (α := Int) 3 v45z ([(0 : Int)]), cOwn (α := Raw 2) 60 u0_16 rr1_17, cRo Bs2_18, cRo Bs_15, cOwn (α := Int) 3 v32z ([(1 : Int)]), cOwn (α := Raw 2) 60 u0_11 rr1_12, cRo Bs2_13, cRo Bs_10, cOwn (α := Int) 3 v19z ([(0 : Int)]), cOwn (α := Raw 2) 60 u0_6 rr1_7, cRo Bs2_8, cRo Bs_5, cOwn (α := Note) 30 v6z ([(⟨(0 : Int), (2 : Int), (7 : Int)⟩ : Note), (⟨(1 : Int), (0 : Int), (9 : Int)⟩ : Note)]), cOwn (α := Raw 2) 60 u0_1 rr1_2, cRo Bs2_3]) H rfl)) ?_
 rintro vq w132z ⟨r05, r15, u0_51, hr133z, hvq, H2_⟩
 subst hr133z
 subst vq
 try dsimp only at hM
 replace H : St w w132z [cOwn (α := Int) 3 u0_51 r05, cOwn (α := Int) 3 v128z ([(1 : Int)]), cOwn (α := Raw 2) 60 u0_47 rr1_48, cRo Bs2_49, cOwn (α := Raw 0) 34 u0_44 rr1_45, cRo Bs2_46, cOwn (α := Int) 3 v116z ([(1 : Int)]), cOwn (α := Raw 2) 60 u0_40 rr1_41, cRo Bs2_42, cOwn (α := Int) 3 u0_39 r03, cOwn (α := Int) 3 v105z ([(1 : Int)]), cOwn (α := Raw 2) 60 u0_35 rr1_36, cRo Bs2_37, cOwn (α := Int) 3 v94z ([(0 : Int), (2 : Int), (4 : Int)]), cOwn (α := Int) 3 v92z ([(0 : Int)]), cOwn (α := Raw 2) 60 u0_30 rr1_31, cRo Bs2_32, cOwn (α := Int) 3 v81z ([(0 : Int), (2 : Int), (4 : Int), (5 : Int)]), cOwn (α := Int) 3 v79z ([(0 : Int)]), cOwn (α := Raw 2) 60 u0_25 rr1_26, cRo Bs2_27, cRo Bs_24, cRo Bs_23, cRo Bs_22, cRo Bs_21, cRo Bs_20, cOwn (α := Int) 3 v45z ([(0 : Int)]), cOwn (α := Raw 2) 60 u0_16 rr1_17, cRo Bs2_18, cRo Bs_15, cOwn (α := Int) 3 v32z ([(1 : Int)]), cOwn (α := Raw 2) 60 u0_11 rr1_12, cRo Bs2_13, cRo Bs_10, cOwn (α := Int) 3 v19z ([(0 : Int)]), cOwn (α := Raw 2) 60 u0_6 rr1_7, cRo Bs2_8, cRo Bs_5, cOwn (α := Note) 30 v6z ([(⟨(0 : Int), (2 : Int), (7 : Int)⟩ : Note), (⟨(1 : Int), (0 : Int), (9 : Int)⟩ : Note)]), cOwn (α := Raw 2) 60 u0_1 rr1_2, cRo Bs2_3] R := H.back H2_ rfl
 clear H2_
 refine sM (.tuple #[u0_51, I r15]) rfl <| sX [u0_51, I r15] u0_51 rfl rfl <| sX [u0_51, I r15] (I r15) rfl rfl <| sA u0_51 rfl <| sA (I r15) rfl <| s_nil <| W.seq <| sQ rfl <| sM (I r1) rfl <| sC r1 0 (r1 != 0) rfl rfl rfl <| sM (B (r1 != 0)) rfl ?_
 refine g_val (!(r1 != 0)) (gy_f rfl) (fun hg => x_mv (v := I r12) rfl) <| g_val (!(r1 != 0)) (gy_f rfl) (fun hg => x_cmp (kd := .i64) (a := r12) (b := 0) (r := r12 != 0) (gd_of (c := !(r1 != 0)) hg (I r12)) rfl rfl) <| s_val (x_por (b := r1 != 0) (r := r12 != 0) rfl rfl (fun hb => gd_of (c := !(r1 != 0)) (by first | exact hb | (rw [hb]; rfl) | simp_all) (B (r12 != 0)))) <| sM (B ((r1 != 0) || (r12 != 0))) rfl <| g_val (!((r1 != 0) || (r12 != 0))) (gy_f rfl) (fun hg => x_mv (v := I r13) rfl) <| g_val (!((r1 != 0) || (r12 != 0))) (gy_f rfl) (fun hg => x_cmp (kd := .i64) (a := r13) (b := 0) (r := r13 != 0) (gd_of (c := !((r1 != 0) || (r12 != 0))) hg (I r13)) rfl rfl) <| s_val (x_por (b := ((r1 != 0) || (r12 != 0))) (r := r13 != 0) rfl rfl (fun hb => gd_of (c := !((r1 != 0) || (r12 != 0))) (by first | exact hb | (rw [hb]; rfl) | simp_all) (B (r13 != 0)))) <| sM (B (((r1 != 0) || (r12 != 0)) || (r13 != 0))) rfl <| g_val (!(((r1 != 0) || (r12 != 0)) || (r13 != 0))) (gy_f rfl) (fun hg => x_mv (v := I r14) rfl) <| g_val (!(((r1 != 0) || (r12 != 0)) || (r13 != 0))) (gy_f rfl) (fun hg => x_cmp (kd := .i64) (a := r14) (b := 0) (r := r14 != 0) (gd_of (c := !(((r1 != 0) || (r12 != 0)) || (r13 != 0))) hg (I r14)) rfl rfl) <| s_val (x_por (b := (((r1 != 0) || (r12 != 0)) || (r13 != 0))) (r := r14 != 0) rfl rfl (fun hb => gd_of (c := !(((r1 != 0) || (r12 != 0)) || (r13 != 0))) (by first | exact hb | (rw [hb]; rfl) | simp_all) (B (r14 != 0)))) <| sM (B ((((r1 != 0) || (r12 != 0)) || (r13 != 0)) || (r14 != 0))) rfl ?_
 refine g_val (!((((r1 != 0) || (r12 != 0)) || (r13 != 0)) || (r14 != 0))) (gy_f rfl) (fun hg => x_mv (v := I r15) rfl) <| g_val (!((((r1 != 0) || (r12 != 0)) || (r13 != 0)) || (r14 != 0))) (gy_f rfl) (fun hg => x_cmp (kd := .i64) (a := r15) (b := 5) (r := r15 != 5) (gd_of (c := !((((r1 != 0) || (r12 != 0)) || (r13 != 0)) || (r14 != 0))) hg (I r15)) rfl rfl) <| s_val (x_por (b := ((((r1 != 0) || (r12 != 0)) || (r13 != 0)) || (r14 != 0))) (r := r15 != 5) rfl rfl (fun hb => gd_of (c := !((((r1 != 0) || (r12 != 0)) || (r13 != 0)) || (r14 != 0))) (by first | exact hb | (rw [hb]; rfl) | simp_all) (B (r15 != 5)))) <| sM (B (((((r1 != 0) || (r12 != 0)) || (r13 != 0)) || (r14 != 0)) || (r15 != 5))) rfl <| g_val (!(((((r1 != 0) || (r12 != 0)) || (r13 != 0)) || (r14 != 0)) || (r15 != 5))) (gy_f rfl) (fun hg => x_mv (v := B r0) rfl) <| g_val (!(((((r1 != 0) || (r12 != 0)) || (r13 != 0)) || (r14 != 0)) || (r15 != 5))) (gy_f rfl) (fun hg => x_not (b := r0) (gd_of (c := !(((((r1 != 0) || (r12 != 0)) || (r13 != 0)) || (r14 != 0)) || (r15 != 5))) hg (B r0))) <| s_val (x_por (b := (((((r1 != 0) || (r12 != 0)) || (r13 != 0)) || (r14 != 0)) || (r15 != 5))) (r := !r0) rfl rfl (fun hb => gd_of (c := !(((((r1 != 0) || (r12 != 0)) || (r13 != 0)) || (r14 != 0)) || (r15 != 5))) (by first | exact hb | (rw [hb]; rfl) | simp_all) (B (!r0)))) <| sM (B ((((((r1 != 0) || (r12 != 0)) || (r13 != 0)) || (r14 != 0)) || (r15 != 5)) || (!r0))) rfl <| g_val (!((((((r1 != 0) || (r12 != 0)) || (r13 != 0)) || (r14 != 0)) || (r15 != 5)) || (!r0))) (gy_f rfl) (fun hg => x_mv (v := B r02) rfl) <| s_val (x_por (b := ((((((r1 != 0) || (r12 != 0)) || (r13 != 0)) || (r14 != 0)) || (r15 != 5)) || (!r0))) (r := r02) rfl rfl (fun hb => gd_of (c := !((((((r1 != 0) || (r12 != 0)) || (r13 != 0)) || (r14 != 0)) || (r15 != 5)) || (!r0))) (by first | exact hb | (rw [hb]; rfl) | simp_all) (B r02))) <| sM (B (((((((r1 != 0) || (r12 != 0)) || (r13 != 0)) || (r14 != 0)) || (r15 != 5)) || (!r0)) || r02)) rfl <| g_val (!(((((((r1 != 0) || (r12 != 0)) || (r13 != 0)) || (r14 != 0)) || (r15 != 5)) || (!r0)) || r02)) (gy_f rfl) (fun hg => x_mv (v := u0_39) rfl) ?_
 refine t_gbs (α := Int) T34 (!(((((((r1 != 0) || (r12 != 0)) || (r13 != 0)) || (r14 != 0)) || (r15 != 5)) || (!r0)) || r02)) (gy_f rfl) [I 2, I 3] [(2 : Int), (3 : Int)] H (fun _ => rfl) (.cons rfl (Flat.rep_enc _ _) <| .cons rfl (Flat.rep_enc _ _) <| .nil) rfl rfl rfl ?_
 intro v134z Bs_52 w135z H hf136z
 obtain ⟨s5, hx137z, hM⟩ := M.e_bind hM
 replace hx137z := M.e_pure hx137z
 refine t_gcall (!(((((((r1 != 0) || (r12 != 0)) || (r13 != 0)) || (r14 != 0)) || (r15 != 5)) || (!r0)) || r02)) (gy_f rfl) cf25 (B s5) (fun _ => [u0_39, v134z]) (fun hg => lst2 (gd_of (c := !(((((((r1 != 0) || (r12 != 0)) || (r13 != 0)) || (r14 != 0)) || (r15 != 5)) || (!r0)) || r02)) hg (u0_39)) (gd_of (c := !(((((((r1 != 0) || (r12 != 0)) || (r13 != 0)) || (r14 != 0)) || (r15 != 5)) || (!r0)) || r02)) hg (v134z))) H (fun hg => Ret.mono (same_int _ ((ownSl (H.get (k := 10) rfl)).mono (ownLe _ (H.get (k := 10) rfl))) ((hf136z hg).mono (roLe _ (H.get (k := 0) rfl)))) fun v_ w_ ⟨hv_, hx_⟩ => ⟨hv_.trans (congrArg B hx137z), H.ext hx_⟩) ?_
 intro w138z H
 refine g_val (!(((((((r1 != 0) || (r12 != 0)) || (r13 != 0)) || (r14 != 0)) || (r15 != 5)) || (!r0)) || r02)) (gy_f rfl) (fun hg => x_not (b := s5) (gd_of (c := !(((((((r1 != 0) || (r12 != 0)) || (r13 != 0)) || (r14 != 0)) || (r15 != 5)) || (!r0)) || r02)) hg (B s5))) <| s_val (x_por (b := (((((((r1 != 0) || (r12 != 0)) || (r13 != 0)) || (r14 != 0)) || (r15 != 5)) || (!r0)) || r02)) (r := !s5) rfl rfl (fun hb => gd_of (c := !(((((((r1 != 0) || (r12 != 0)) || (r13 != 0)) || (r14 != 0)) || (r15 != 5)) || (!r0)) || r02)) (by first | exact hb | (rw [hb]; rfl) | simp_all) (B (!s5)))) <| sM (B ((((((((r1 != 0) || (r12 != 0)) || (r13 != 0)) || (r14 != 0)) || (r15 != 5)) || (!r0)) || r02) || (!s5))) rfl <| g_val (!((((((((r1 != 0) || (r12 != 0)) || (r13 != 0)) || (r14 != 0)) || (r15 != 5)) || (!r0)) || r02) || (!s5))) (gy_f rfl) (fun hg => x_mv (v := u0_44) rfl) <| g_val (!((((((((r1 != 0) || (r12 != 0)) || (r13 != 0)) || (r14 != 0)) || (r15 != 5)) || (!r0)) || r02) || (!s5))) (gy_f rfl) (fun hg => x_lenS T73.und (gd_of (c := !((((((((r1 != 0) || (r12 != 0)) || (r13 != 0)) || (r14 != 0)) || (r15 != 5)) || (!r0)) || r02) || (!s5))) hg (u0_44)) (rowSl rfl (H.get (k := 5) rfl) (roLe _ (H.get (k := 6) rfl)) hf122z)) <| g_val (!((((((((r1 != 0) || (r12 != 0)) || (r13 != 0)) || (r14 != 0)) || (r15 != 5)) || (!r0)) || r02) || (!s5))) (gy_f rfl) (fun hg => x_cmp (kd := .i64) (a := (r04.length : Int)) (b := 2) (r := (r04.length : Int) != 2) (gd_of (c := !((((((((r1 != 0) || (r12 != 0)) || (r13 != 0)) || (r14 != 0)) || (r15 != 5)) || (!r0)) || r02) || (!s5))) hg (I (r04.length : Int))) rfl rfl) <| s_val (x_por (b := ((((((((r1 != 0) || (r12 != 0)) || (r13 != 0)) || (r14 != 0)) || (r15 != 5)) || (!r0)) || r02) || (!s5))) (r := (r04.length : Int) != 2) rfl rfl (fun hb => gd_of (c := !((((((((r1 != 0) || (r12 != 0)) || (r13 != 0)) || (r14 != 0)) || (r15 != 5)) || (!r0)) || r02) || (!s5))) (by first | exact hb | (rw [hb]; rfl) | simp_all) (B ((r04.length : Int) != 2)))) <| s_nil ?_
 refine W.cond (((((((((r1 != 0) || (r12 != 0)) || (r13 != 0)) || (r14 != 0)) || (r15 != 5)) || (!r0)) || r02) || (!s5)) || ((r04.length : Int) != 2)) rfl (fun c140z => ?_) (fun c140z => ?_)
 ·replace hM := M.e_t hM c140z
  refine sQ rfl <| sA (B false) rfl <| s_nil ?_
  refine W.ret ?_
  have hr_ := M.e_pure hM
  exact ⟨_, resE_tmp rfl, ⟨false, hr_, rfl, (H.pick [] (by decide) rfl)⟩⟩
 replace hM := M.e_f hM c140z
 refine W.skip <| sQ rfl ?_
 obtain ⟨r142z, hx141z, hM⟩ := M.e_bind hM
 refine s_call cf79 [] rfl (nilometerlaw13_Six_ok hx141z _ (St.give (T := [cRo Bs_52, cOwn (α := Int) 3 u0_51 r05, cOwn (α := Int) 3 v128z ([(1 : Int)]), cOwn (α := Raw 2) 60 u0_47 rr1_48, cRo Bs2_49, cOwn (α := Raw 0) 34 u0_44 rr1_45, cRo Bs2_46, cOwn (α := Int) 3 v116z ([(1 : Int)]), cOwn (α := Raw 2) 60 u0_40 rr1_41, cRo Bs2_42, cOwn (α := Int) 3 u0_39 r03, cOwn (α := Int) 3 v105z ([(1 : Int)]), cOwn (α := Raw 2) 60 u0_35 rr1_36, cRo Bs2_37, cOwn (α := Int) 3 v94z ([(0 : Int), (2 : Int), (4 : Int)]), cOwn (α := Int) 3 v92z ([(0 : Int)]), cOwn (α := Raw 2) 60 u0_30 rr1_31, cRo Bs2_32, cOwn (α := Int) 3 v81z ([(0 : Int), (2 : Int), (4 : Int), (5 : Int)]), cOwn (α := Int) 3 v79z ([(0 : Int)]), cOwn (α := Raw 2) 60 u0_25 rr1_26, cRo Bs2_27, cRo Bs_24, cRo Bs_23, cRo Bs_22, cRo Bs_21, cRo Bs_20, cOwn (α := Int) 3 v45z ([(0 : Int)]), cOwn (α := Raw 2) 60 u0_16 rr1_17, cRo Bs2_18, cRo Bs_15, cOwn (α := Int) 3 v32z ([(1 : Int)]), cOwn (α := Raw 2) 60 u0_11 rr1_12, cRo Bs2_13, cRo Bs_10, cOwn (α := Int) 3 v19z ([(0 : Int)]), cOwn (α := Raw 2) 60 u0_6 rr1_7, cRo Bs2_8, cRo Bs_5, cOwn (α := Note) 30 v6z ([(⟨(0 : Int), (2 : Int), (7 : Int)⟩ : Note), (⟨(1 : Int), (0 : Int), (9 : Int)⟩ : Note)]), cOwn (α := Raw 2) 60 u0_1 rr1_2, cRo Bs2_3]) H rfl)) ?_
 rintro vq w143z ⟨r11, u0_53, rr1_54, Bs2_55, hr144z, hvq, H2_, hf145z⟩
 subst hr144z
 subst vq
 try dsimp only at hM
 replace H : St w w143z [cOwn (α := Raw 2) 60 u0_53 rr1_54, cRo Bs2_55, cRo Bs_52, cOwn (α := Int) 3 u0_51 r05, cOwn (α := Int) 3 v128z ([(1 : Int)]), cOwn (α := Raw 2) 60 u0_47 rr1_48, cRo Bs2_49, cOwn (α := Raw 0) 34 u0_44 rr1_45, cRo Bs2_46, cOwn (α := Int) 3 v116z ([(1 : Int)]), cOwn (α := Raw 2) 60 u0_40 rr1_41, cRo Bs2_42, cOwn (α := Int) 3 u0_39 r03, cOwn (α := Int) 3 v105z ([(1 : Int)]), cOwn (α := Raw 2) 60 u0_35 rr1_36, cRo Bs2_37, cOwn (α := Int) 3 v94z ([(0 : Int), (2 : Int), (4 : Int)]), cOwn (α := Int) 3 v92z ([(0 : Int)]), cOwn (α := Raw 2) 60 u0_30 rr1_31, cRo Bs2_32, cOwn (α := Int) 3 v81z ([(0 : Int), (2 : Int), (4 : Int), (5 : Int)]), cOwn (α := Int) 3 v79z ([(0 : Int)]), cOwn (α := Raw 2) 60 u0_25 rr1_26, cRo Bs2_27, cRo Bs_24, cRo Bs_23, cRo Bs_22, cRo Bs_21, cRo Bs_20, cOwn (α := Int) 3 v45z ([(0 : Int)]), cOwn (α := Raw 2) 60 u0_16 rr1_17, cRo Bs2_18, cRo Bs_15, cOwn (α := Int) 3 v32z ([(1 : Int)]), cOwn (α := Raw 2) 60 u0_11 rr1_12, cRo Bs2_13, cRo Bs_10, cOwn (α := Int) 3 v19z ([(0 : Int)]), cOwn (α := Raw 2) 60 u0_6 rr1_7, cRo Bs2_8, cRo Bs_5, cOwn (α := Note) 30 v6z ([(⟨(0 : Int), (2 : Int), (7 : Int)⟩ : Note), (⟨(1 : Int), (0 : Int), (9 : Int)⟩ : Note)]), cOwn (α := Raw 2) 60 u0_1 rr1_2, cRo Bs2_3] R := H.back H2_ rfl
 clear H2_
 refine s_val (x_bld (ps := [(0, I 0), (1, I 3), (2, I 8)]) (zs := [I 0, I 0, I 0]) (L' := [I 0, I 3, I 8]) rfl Try.underlying30 Al30 rfl (Bd30 Try.underlying30) (.cons (cs := [I 0]) rfl rfl rfl rfl rfl <| .cons (cs := [I 3]) rfl rfl rfl rfl rfl <| .cons (cs := [I 8]) rfl rfl rfl rfl rfl <| .nil)) <| s_val (x_bld (ps := [(0, I 0), (1, I 2), (2, I 7)]) (zs := [I 0, I 0, I 0]) (L' := [I 0, I 2, I 7]) rfl Try.underlying30 Al30 rfl (Bd30 Try.underlying30) (.cons (cs := [I 0]) rfl rfl rfl rfl rfl <| .cons (cs := [I 2]) rfl rfl rfl rfl rfl <| .cons (cs := [I 7]) rfl rfl rfl rfl rfl <| .nil)) <| s_val (x_bld (ps := [(0, I 1), (2, I 9)]) (zs := [I 0, I 0, I 0]) (L' := [I 1, I 0, I 9]) rfl Try.underlying30 Al30 rfl (Bd30 Try.underlying30) (.cons (cs := [I 1]) rfl rfl rfl rfl rfl <| .cons (cs := [I 9]) rfl rfl rfl rfl rfl <| .nil)) ?_
 refine t_bs (α := Note) T23 [.agg #[I 0, I 3, I 8], .agg #[I 0, I 2, I 7], .agg #[I 1, I 0, I 9]] [(⟨(0 : Int), (3 : Int), (8 : Int)⟩ : Note), (⟨(0 : Int), (2 : Int), (7 : Int)⟩ : Note), (⟨(1 : Int), (0 : Int), (9 : Int)⟩ : Note)] H rfl (.cons rfl (Flat.rep_enc _ (⟨(0 : Int), (3 : Int), (8 : Int)⟩ : Note)) <| .cons rfl (Flat.rep_enc _ (⟨(0 : Int), (2 : Int), (7 : Int)⟩ : Note)) <| .cons rfl (Flat.rep_enc _ (⟨(1 : Int), (0 : Int), (9 : Int)⟩ : Note)) <| .nil) rfl rfl rfl ?_
 intro v146z w147z H
 refine s_val (x_bld (ps := [(0, I 2), (1, I 26)]) (zs := [I 0, I 0]) (L' := [I 2, I 26]) rfl Try.underlying33 Al33 rfl (Bd33 Try.underlying33) (.cons (cs := [I 2]) rfl rfl rfl rfl rfl <| .cons (cs := [I 26]) rfl rfl rfl rfl rfl <| .nil)) <| s_val (x_bld (ps := [(0, I 3), (1, I 10)]) (zs := [I 0, I 0]) (L' := [I 3, I 10]) rfl Try.underlying33 Al33 rfl (Bd33 Try.underlying33) (.cons (cs := [I 3]) rfl rfl rfl rfl rfl <| .cons (cs := [I 10]) rfl rfl rfl rfl rfl <| .nil)) ?_
 refine t_bs (α := Pub) T24 [.agg #[I 2, I 26], .agg #[I 3, I 10]] [(⟨(2 : Int), (26 : Int)⟩ : Pub), (⟨(3 : Int), (10 : Int)⟩ : Pub)] H rfl (.cons rfl (Flat.rep_enc _ (⟨(2 : Int), (26 : Int)⟩ : Pub)) <| .cons rfl (Flat.rep_enc _ (⟨(3 : Int), (10 : Int)⟩ : Pub)) <| .nil) rfl rfl rfl ?_
 intro v148z w149z H
 obtain ⟨⟨l5, e5⟩, hx153z, hM⟩ := M.e_bind hM
 obtain ⟨hq154z, hq155z⟩ := Prod.mk.inj (M.e_pure hx153z)
 try dsimp only at hM
 refine s_call cf26 [u0_53, v146z, v148z] rfl (by have hc_ := (Withdrawn_any _ ((rowSl rfl (H.get (k := 2) rfl) (roLe _ (H.get (k := 3) rfl)) hf145z).mono (Cells.sup_le (ownLe _ (H.get (k := 2) rfl)) (roLe _ (H.get (k := 3) rfl)))) ((ownSl (H.get (k := 1) rfl)).mono (ownLe _ (H.get (k := 1) rfl))) ((ownSl (H.get (k := 0) rfl)).mono (ownLe _ (H.get (k := 0) rfl)))); rw [hq154z, hq155z] at hc_; exact hc_) ?_
 rintro _ w150z ⟨u151z, rfl, hs152z, hx_⟩
 obtain ⟨Bs_58, H, hs152z⟩ := H.fresh hx_ hs152z
 clear hx_
 have hl_hs152z := hs152z.len_le
 refine sM (.tuple #[u151z, I e5]) rfl <| sX [u151z, I e5] u151z rfl rfl <| sX [u151z, I e5] (I e5) rfl rfl <| sA u151z rfl <| sA (I e5) rfl <| s_nil <| sQ rfl <| sM (I e5) rfl <| sC e5 0 (e5 == 0) rfl rfl rfl <| sM (B (e5 == 0)) rfl <| g_val (e5 == 0) (gy_t rfl) (fun hg => x_mv (v := u151z) rfl) ?_
 refine t_gbs (α := Int) T34 (e5 == 0) (gy_t rfl) [I 0] [(0 : Int)] H (fun _ => rfl) (.cons rfl (Flat.rep_enc _ _) <| .nil) rfl rfl rfl ?_
 intro v156z Bs_59 w157z H hf158z
 obtain ⟨s6, hx159z, hM⟩ := M.e_bind hM
 replace hx159z := M.e_pure hx159z
 refine t_gcall (e5 == 0) (gy_t rfl) cf25 (B s6) (fun _ => [u151z, v156z]) (fun hg => lst2 (gd_of (c := e5 == 0) hg (u151z)) (gd_of (c := e5 == 0) hg (v156z))) H (fun hg => Ret.mono (same_int _ (hs152z.mono (roLe _ (H.get (k := 1) rfl))) ((hf158z hg).mono (roLe _ (H.get (k := 0) rfl)))) fun v_ w_ ⟨hv_, hx_⟩ => ⟨hv_.trans (congrArg B hx159z), H.ext hx_⟩) ?_
 intro w160z H
 refine s_val (x_pand (b := e5 == 0) (r := s6) rfl (fun hb => gd_of (c := e5 == 0) (by first | exact hb | (rw [hb]; rfl) | simp_all) (B s6)) rfl) <| sA (B ((e5 == 0) && s6)) rfl <| s_nil ?_
 refine W.ret ?_
 have hr_ := M.e_pure hM
 exact ⟨_, resE_tmp rfl, ⟨((e5 == 0) && s6), hr_, rfl, (H.pick [] (by decide) rfl)⟩⟩

end Go.Proofs.Ytndobgodeicloaa
end
section
set_option maxRecDepth 100000
set_option maxHeartbeats 16000000
namespace Go.Proofs.Ytndobgodeicloaa
open Go Go.Nm
def m_nilometerkit_New (bytes : List UInt8) : M (Int × Int) :=
  M.pure (0, 0)
theorem nilometerkit_New_ok {R : List Chunk} {C_bytes : Cells} {v_bytes : Value} (bytes : List UInt8) (hC_bytes : Reads R C_bytes) (hs_bytes : Sl C_bytes v_bytes bytes) {r : (Int × Int)} (hM : (m_nilometerkit_New bytes).Ends r) (w : World) (H : St w w [] R) : Ret Try.prog 40 #[v_bytes] w fun v w' => ∃ (y0 : Int) (y1 : Int) (nb0 : Nat), (y0, y1) = r ∧ v = Pz nb0 ∧ St w w' [cBlk nb0 [v_bytes, I y0, I y1] 158] R := by
 refine ret_of_W Try.func40 rfl rfl rfl ?_
 refine sQ rfl <| sA (.pointer none) rfl <| s_nil <| sQ rfl <| sM v_bytes rfl <| s_val (x_bld (ps := [(0, v_bytes)]) (zs := [.slice none 0 0, I 0, I 0]) (L' := [v_bytes, I 0, I 0]) rfl Try.underlying158 Al158 rfl (Bd158 Try.underlying158) (.cons (cs := [v_bytes]) (Sl.cells hs_bytes) rfl rfl rfl rfl <| .nil)) ?_
 refine t_box (v := .agg #[v_bytes, I 0, I 0]) (cs := [v_bytes, I 0, I 0]) H rfl rfl ?_
 intro b_1 w1z H
 refine sA (Pz b_1) rfl <| s_nil ?_
 refine W.ret ?_
 have hr_ := M.e_pure hM
 exact ⟨_, resE_tmp rfl, ⟨0, 0, b_1, hr_, rfl, H⟩⟩

def m_nilometerkit_Stream_Next (s_bytes : List UInt8) (s_used : Int) (s_mix : Int) (n : Int) : M (Int × Int × Int) :=
  bif ((decide (n < 2)) || ((s_bytes.length : Int) == 0)) then (
  M.pure (0, s_used, s_mix))
  else (
  M.grd (decide ((0 : Int) ≤ s_used) && decide ((0 : Int) < (s_bytes.length : Int))) <|
  M.grd (decide ((0 : Int) ≤ (s_used % (s_bytes.length : Int))) && decide ((s_used % (s_bytes.length : Int)) < (s_bytes.length : Int))) <|
  M.grd (decide ((0 : Int) ≤ ((s_bytes.getD (Int.toNat (s_used % (s_bytes.length : Int))) 0).toNat : Int)) && decide (((s_bytes.getD (Int.toNat (s_used % (s_bytes.length : Int))) 0).toNat : Int) < (256 : Int))) <|
  bif decide ((s_bytes.length : Int) ≤ s_used) then (
  M.grd (decide ((-9223372036854775808 : Int) ≤ (11 * s_mix)) && decide ((11 * s_mix) ≤ (9223372036854775807 : Int))) <|
  M.grd (decide (0 ≤ s_used) && decide (s_used ≤ (9223372036854775807 : Int)) && decide ((0 : Int) < (s_bytes.length : Int))) <|
  M.grd (decide ((-9223372036854775808 : Int) ≤ ((11 * s_mix) + (s_used / (s_bytes.length : Int)))) && decide (((11 * s_mix) + (s_used / (s_bytes.length : Int))) ≤ (9223372036854775807 : Int))) <|
  M.grd (decide ((-9223372036854775808 : Int) ≤ (((s_bytes.getD (Int.toNat (s_used % (s_bytes.length : Int))) 0).toNat : Int) + ((11 * s_mix) + (s_used / (s_bytes.length : Int))))) && decide ((((s_bytes.getD (Int.toNat (s_used % (s_bytes.length : Int))) 0).toNat : Int) + ((11 * s_mix) + (s_used / (s_bytes.length : Int)))) ≤ (9223372036854775807 : Int))) <|
  M.grd (decide ((-9223372036854775808 : Int) ≤ (5 * s_mix)) && decide ((5 * s_mix) ≤ (9223372036854775807 : Int))) <|
  M.grd (decide ((-9223372036854775808 : Int) ≤ ((5 * s_mix) + (((s_bytes.getD (Int.toNat (s_used % (s_bytes.length : Int))) 0).toNat : Int) + ((11 * s_mix) + (s_used / (s_bytes.length : Int)))))) && decide (((5 * s_mix) + (((s_bytes.getD (Int.toNat (s_used % (s_bytes.length : Int))) 0).toNat : Int) + ((11 * s_mix) + (s_used / (s_bytes.length : Int))))) ≤ (9223372036854775807 : Int))) <|
  M.grd (decide ((-9223372036854775808 : Int) ≤ (((5 * s_mix) + (((s_bytes.getD (Int.toNat (s_used % (s_bytes.length : Int))) 0).toNat : Int) + ((11 * s_mix) + (s_used / (s_bytes.length : Int))))) + 1)) && decide ((((5 * s_mix) + (((s_bytes.getD (Int.toNat (s_used % (s_bytes.length : Int))) 0).toNat : Int) + ((11 * s_mix) + (s_used / (s_bytes.length : Int))))) + 1) ≤ (9223372036854775807 : Int))) <|
  M.grd (decide ((0 : Int) ≤ (((5 * s_mix) + (((s_bytes.getD (Int.toNat (s_used % (s_bytes.length : Int))) 0).toNat : Int) + ((11 * s_mix) + (s_used / (s_bytes.length : Int))))) + 1)) && decide ((0 : Int) < 251)) <|
  M.grd (decide ((-9223372036854775808 : Int) ≤ (s_used + 1)) && decide ((s_used + 1) ≤ (9223372036854775807 : Int))) <|
  bif decide (256 < n) then (
  M.grd (decide ((-9223372036854775808 : Int) ≤ (256 * (((s_bytes.getD (Int.toNat (s_used % (s_bytes.length : Int))) 0).toNat : Int) + ((11 * s_mix) + (s_used / (s_bytes.length : Int)))))) && decide ((256 * (((s_bytes.getD (Int.toNat (s_used % (s_bytes.length : Int))) 0).toNat : Int) + ((11 * s_mix) + (s_used / (s_bytes.length : Int))))) ≤ (9223372036854775807 : Int))) <|
  M.grd (decide ((-9223372036854775808 : Int) ≤ ((256 * (((s_bytes.getD (Int.toNat (s_used % (s_bytes.length : Int))) 0).toNat : Int) + ((11 * s_mix) + (s_used / (s_bytes.length : Int))))) + ((((5 * s_mix) + (((s_bytes.getD (Int.toNat (s_used % (s_bytes.length : Int))) 0).toNat : Int) + ((11 * s_mix) + (s_used / (s_bytes.length : Int))))) + 1) % 251))) && decide (((256 * (((s_bytes.getD (Int.toNat (s_used % (s_bytes.length : Int))) 0).toNat : Int) + ((11 * s_mix) + (s_used / (s_bytes.length : Int))))) + ((((5 * s_mix) + (((s_bytes.getD (Int.toNat (s_used % (s_bytes.length : Int))) 0).toNat : Int) + ((11 * s_mix) + (s_used / (s_bytes.length : Int))))) + 1) % 251)) ≤ (9223372036854775807 : Int))) <|
  M.grd (decide ((0 : Int) ≤ ((256 * (((s_bytes.getD (Int.toNat (s_used % (s_bytes.length : Int))) 0).toNat : Int) + ((11 * s_mix) + (s_used / (s_bytes.length : Int))))) + ((((5 * s_mix) + (((s_bytes.getD (Int.toNat (s_used % (s_bytes.length : Int))) 0).toNat : Int) + ((11 * s_mix) + (s_used / (s_bytes.length : Int))))) + 1) % 251))) && decide ((0 : Int) < n)) <|
  M.pure ((((256 * (((s_bytes.getD (Int.toNat (s_used % (s_bytes.length : Int))) 0).toNat : Int) + ((11 * s_mix) + (s_used / (s_bytes.length : Int))))) + ((((5 * s_mix) + (((s_bytes.getD (Int.toNat (s_used % (s_bytes.length : Int))) 0).toNat : Int) + ((11 * s_mix) + (s_used / (s_bytes.length : Int))))) + 1) % 251)) % n), (s_used + 1), ((((5 * s_mix) + (((s_bytes.getD (Int.toNat (s_used % (s_bytes.length : Int))) 0).toNat : Int) + ((11 * s_mix) + (s_used / (s_bytes.length : Int))))) + 1) % 251)))
  else (
  M.grd (decide ((0 : Int) ≤ (((s_bytes.getD (Int.toNat (s_used % (s_bytes.length : Int))) 0).toNat : Int) + ((11 * s_mix) + (s_used / (s_bytes.length : Int))))) && decide ((0 : Int) < n)) <|
  M.pure (((((s_bytes.getD (Int.toNat (s_used % (s_bytes.length : Int))) 0).toNat : Int) + ((11 * s_mix) + (s_used / (s_bytes.length : Int)))) % n), (s_used + 1), ((((5 * s_mix) + (((s_bytes.getD (Int.toNat (s_used % (s_bytes.length : Int))) 0).toNat : Int) + ((11 * s_mix) + (s_used / (s_bytes.length : Int))))) + 1) % 251))))
  else (
  M.grd (decide ((-9223372036854775808 : Int) ≤ (5 * s_mix)) && decide ((5 * s_mix) ≤ (9223372036854775807 : Int))) <|
  M.grd (decide ((-9223372036854775808 : Int) ≤ ((5 * s_mix) + ((s_bytes.getD (Int.toNat (s_used % (s_bytes.length : Int))) 0).toNat : Int))) && decide (((5 * s_mix) + ((s_bytes.getD (Int.toNat (s_used % (s_bytes.length : Int))) 0).toNat : Int)) ≤ (9223372036854775807 : Int))) <|
  M.grd (decide ((-9223372036854775808 : Int) ≤ (((5 * s_mix) + ((s_bytes.getD (Int.toNat (s_used % (s_bytes.length : Int))) 0).toNat : Int)) + 1)) && decide ((((5 * s_mix) + ((s_bytes.getD (Int.toNat (s_used % (s_bytes.length : Int))) 0).toNat : Int)) + 1) ≤ (9223372036854775807 : Int))) <|
  M.grd (decide ((0 : Int) ≤ (((5 * s_mix) + ((s_bytes.getD (Int.toNat (s_used % (s_bytes.length : Int))) 0).toNat : Int)) + 1)) && decide ((0 : Int) < 251)) <|
  M.grd (decide ((-9223372036854775808 : Int) ≤ (s_used + 1)) && decide ((s_used + 1) ≤ (9223372036854775807 : Int))) <|
  bif decide (256 < n) then (
  M.grd (decide ((-9223372036854775808 : Int) ≤ (256 * ((s_bytes.getD (Int.toNat (s_used % (s_bytes.length : Int))) 0).toNat : Int))) && decide ((256 * ((s_bytes.getD (Int.toNat (s_used % (s_bytes.length : Int))) 0).toNat : Int)) ≤ (9223372036854775807 : Int))) <|
  M.grd (decide ((-9223372036854775808 : Int) ≤ ((256 * ((s_bytes.getD (Int.toNat (s_used % (s_bytes.length : Int))) 0).toNat : Int)) + ((((5 * s_mix) + ((s_bytes.getD (Int.toNat (s_used % (s_bytes.length : Int))) 0).toNat : Int)) + 1) % 251))) && decide (((256 * ((s_bytes.getD (Int.toNat (s_used % (s_bytes.length : Int))) 0).toNat : Int)) + ((((5 * s_mix) + ((s_bytes.getD (Int.toNat (s_used % (s_bytes.length : Int))) 0).toNat : Int)) + 1) % 251)) ≤ (9223372036854775807 : Int))) <|
  M.grd (decide ((0 : Int) ≤ ((256 * ((s_bytes.getD (Int.toNat (s_used % (s_bytes.length : Int))) 0).toNat : Int)) + ((((5 * s_mix) + ((s_bytes.getD (Int.toNat (s_used % (s_bytes.length : Int))) 0).toNat : Int)) + 1) % 251))) && decide ((0 : Int) < n)) <|
  M.pure ((((256 * ((s_bytes.getD (Int.toNat (s_used % (s_bytes.length : Int))) 0).toNat : Int)) + ((((5 * s_mix) + ((s_bytes.getD (Int.toNat (s_used % (s_bytes.length : Int))) 0).toNat : Int)) + 1) % 251)) % n), (s_used + 1), ((((5 * s_mix) + ((s_bytes.getD (Int.toNat (s_used % (s_bytes.length : Int))) 0).toNat : Int)) + 1) % 251)))
  else (
  M.grd (decide ((0 : Int) ≤ ((s_bytes.getD (Int.toNat (s_used % (s_bytes.length : Int))) 0).toNat : Int)) && decide ((0 : Int) < n)) <|
  M.pure ((((s_bytes.getD (Int.toNat (s_used % (s_bytes.length : Int))) 0).toNat : Int) % n), (s_used + 1), ((((5 * s_mix) + ((s_bytes.getD (Int.toNat (s_used % (s_bytes.length : Int))) 0).toNat : Int)) + 1) % 251)))))
theorem nilometerkit_Stream_Next_ok {R : List Chunk} {b_s : Nat} {C_s_bytes : Cells} {v_s_bytes : Value} (s_bytes : List UInt8) (s_used : Int) (s_mix : Int) (n : Int) (hC_s_bytes : Reads R C_s_bytes) (hs_s_bytes : Sl C_s_bytes v_s_bytes s_bytes) {r : (Int × Int × Int)} (hM : (m_nilometerkit_Stream_Next s_bytes s_used s_mix n).Ends r) (w : World) (H : St w w [cBlk b_s [v_s_bytes, I s_used, I s_mix] 158] R) : Ret Try.prog 44 #[Pz b_s, I n] w fun v w' => ∃ (y0 : Int) (y1 : Int) (y2 : Int), (y0, y1, y2) = r ∧ v = I y0 ∧ St w w' [cBlk b_s [v_s_bytes, I y1, I y2] 158] R := by
 refine ret_of_W Try.func44 rfl rfl rfl ?_
 refine sQ rfl <| sA (I 0) rfl <| s_nil <| W.seq <| sQ rfl <| sM (I n) rfl <| sC n 2 (decide (n < 2)) rfl rfl rfl <| sM (B (decide (n < 2))) rfl <| g_val (!(decide (n < 2))) (gy_f rfl) (fun hg => x_mv (v := Pz b_s) rfl) <| g_val (!(decide (n < 2))) (gy_f rfl) (fun hg => x_nc (a := ⟨b_s, 0, none⟩) (gd_of (c := !(decide (n < 2))) hg (Pz b_s))) ?_
 refine g_val (!(decide (n < 2))) (gy_f rfl) (fun hg => x_fa (a := Pz b_s) (v := Pz b_s) (gd_of (c := !(decide (n < 2))) hg (Pz b_s)) (fa_blk (o := 0) Fd158_0 Sz62)) <| g_val (!(decide (n < 2))) (gy_f rfl) (fun hg => x_ld (p := Pz b_s) (v := v_s_bytes) (gd_of (c := !(decide (n < 2))) hg (Pz b_s)) (ldb_sc Sc62 (H.blk (k := 0) rfl) rfl)) <| g_val (!(decide (n < 2))) (gy_f rfl) (fun hg => x_lenS T62.und (gd_of (c := !(decide (n < 2))) hg (v_s_bytes)) hs_s_bytes) <| g_val (!(decide (n < 2))) (gy_f rfl) (fun hg => x_cmp (kd := .i64) (a := (s_bytes.length : Int)) (b := 0) (r := (s_bytes.length : Int) == 0) (gd_of (c := !(decide (n < 2))) hg (I (s_bytes.length : Int))) rfl rfl) <| s_val (x_por (b := decide (n < 2)) (r := (s_bytes.length : Int) == 0) rfl rfl (fun hb => gd_of (c := !(decide (n < 2))) (by first | exact hb | (rw [hb]; rfl) | simp_all) (B ((s_bytes.length : Int) == 0)))) <| s_nil ?_
 refine W.cond ((decide (n < 2)) || ((s_bytes.length : Int) == 0)) rfl (fun c2z => ?_) (fun c2z => ?_)
 ·replace hM := M.e_t hM c2z
  refine sQ rfl <| sA (I 0) rfl <| s_nil ?_
  refine W.ret ?_
  have hr_ := M.e_pure hM
  exact ⟨_, resE_tmp rfl, ⟨0, s_used, s_mix, hr_, rfl, H⟩⟩
 replace hM := M.e_f hM c2z
 refine W.skip <| W.seq ?_
 refine W.draw (fun W => St w W [cBlk b_s [v_s_bytes, I s_used, I s_mix] 158] R) [(0, true), (1, true), (2, true), (3, true), (4, true), (5, true), (6, true), (7, true), (8, true), (9, true), (10, true), (11, true), (12, true), (13, true), (14, true), (15, true), (16, true), (17, true)] mixed (by decide +kernel) rfl ?_
 intro w3z hx_
 replace H : St w w3z [cBlk b_s [v_s_bytes, I s_used, I s_mix] 158] R := H.ext hx_
 clear hx_
 refine ⟨(H.pick [0] (by decide) rfl), ?_⟩
 refine d_q rfl (fun w' H => x_mv (v := Pz b_s) rfl) ?_
 refine d_q rfl (fun w' H => x_nc (a := ⟨b_s, 0, none⟩) rfl) ?_
 refine d_q rfl (fun w' H => x_fa (a := Pz b_s) (v := Pz b_s) rfl (fa_blk (o := 0) Fd158_0 Sz62)) ?_
 refine d_q rfl (fun w' H => x_ld (p := Pz b_s) (v := v_s_bytes) rfl (ldb_sc Sc62 (H.blk (k := 0) rfl) rfl)) ?_
 refine d_q rfl (fun w' H => x_mv (v := Pz b_s) rfl) ?_
 refine d_q rfl (fun w' H => x_nc (a := ⟨b_s, 0, none⟩) rfl) ?_
 refine d_q rfl (fun w' H => x_fa (a := Pz b_s) (v := Oz b_s 1) rfl (fa_blk (o := 0) Fd158_1 Sz3)) ?_
 refine d_q rfl (fun w' H => x_ld (p := Oz b_s 1) (v := I s_used) rfl (ldb_sc Sc3 (H.blk (k := 0) rfl) rfl)) ?_
 refine d_q rfl (fun w' H => x_mv (v := Pz b_s) rfl) ?_
 refine d_q rfl (fun w' H => x_nc (a := ⟨b_s, 0, none⟩) rfl) ?_
 refine d_q rfl (fun w' H => x_fa (a := Pz b_s) (v := Pz b_s) rfl (fa_blk (o := 0) Fd158_0 Sz62)) ?_
 refine d_q rfl (fun w' H => x_ld (p := Pz b_s) (v := v_s_bytes) rfl (ldb_sc Sc62 (H.blk (k := 0) rfl) rfl)) ?_
 have hl4z := (hs_s_bytes).len_le
 refine d_q rfl (fun w' H => x_lenS T62.und rfl hs_s_bytes) ?_
 obtain ⟨sd5z, hM⟩ := M.e_gd hM
 refine d_q rfl (fun w' H => x_rem' (a := s_used) (b := (s_bytes.length : Int)) rfl rfl (by omega)) ?_
 obtain ⟨sd6z, hM⟩ := M.e_gd hM
 refine d_q rfl (fun w' H => x_ix (a := v_s_bytes) (b := I (s_used % (s_bytes.length : Int))) (v := vat v_s_bytes 1 (Int.toNat (s_used % (s_bytes.length : Int)))) rfl rfl (Sl.ix (α := UInt8) T62.und T62.size hs_s_bytes (by omega) (by omega))) ?_
 refine d_q rfl (fun w' H => x_ld (p := vat v_s_bytes 1 (Int.toNat (s_used % (s_bytes.length : Int)))) (v := .int .u8 (((s_bytes.getD (Int.toNat (s_used % (s_bytes.length : Int))) 0).toNat : Int))) rfl (ld_sc Sc5 (At.mono (UInt8_at hs_s_bytes (i := s_used % (s_bytes.length : Int)) (by omega) (by omega)) (hC_s_bytes.at H)))) ?_
 obtain ⟨sd7z, hM⟩ := M.e_gd hM
 refine d_q rfl (fun w' H => x_conv64 (kd := .u8) (a := ((s_bytes.getD (Int.toNat (s_used % (s_bytes.length : Int))) 0).toNat : Int)) Try.underlying5 Try.underlying3 rfl (by omega)) ?_
 refine d_q rfl (fun w' H => x_as (v := I ((s_bytes.getD (Int.toNat (s_used % (s_bytes.length : Int))) 0).toNat : Int)) rfl) ?_
 refine d_nil ?_
 refine W.seq <| W.seq ?_
 refine W.draw (fun W => St w W [cBlk b_s [v_s_bytes, I s_used, I s_mix] 158] R) [(0, true), (1, true), (2, true), (3, true), (4, true), (5, true), (6, true), (7, true), (8, true), (9, true)] mixed (by decide +kernel) rfl ?_
 intro w8z hx_
 replace H : St w w8z [cBlk b_s [v_s_bytes, I s_used, I s_mix] 158] R := H.ext hx_
 clear hx_
 refine ⟨(H.pick [0] (by decide) rfl), ?_⟩
 refine d_q rfl (fun w' H => x_mv (v := Pz b_s) rfl) ?_
 refine d_q rfl (fun w' H => x_nc (a := ⟨b_s, 0, none⟩) rfl) ?_
 refine d_q rfl (fun w' H => x_fa (a := Pz b_s) (v := Oz b_s 1) rfl (fa_blk (o := 0) Fd158_1 Sz3)) ?_
 refine d_q rfl (fun w' H => x_ld (p := Oz b_s 1) (v := I s_used) rfl (ldb_sc Sc3 (H.blk (k := 0) rfl) rfl)) ?_
 refine d_q rfl (fun w' H => x_mv (v := Pz b_s) rfl) ?_
 refine d_q rfl (fun w' H => x_nc (a := ⟨b_s, 0, none⟩) rfl) ?_
 refine d_q rfl (fun w' H => x_fa (a := Pz b_s) (v := Pz b_s) rfl (fa_blk (o := 0) Fd158_0 Sz62)) ?_
 refine d_q rfl (fun w' H => x_ld (p := Pz b_s) (v := v_s_bytes) rfl (ldb_sc Sc62 (H.blk (k := 0) rfl) rfl)) ?_
 have hl9z := (hs_s_bytes).len_le
 refine d_q rfl (fun w' H => x_lenS T62.und rfl hs_s_bytes) ?_
 refine d_q rfl (fun w' H => x_cmp (kd := .i64) (a := s_used) (b := (s_bytes.length : Int)) (r := decide ((s_bytes.length : Int) ≤ s_used)) rfl rfl rfl) ?_
 refine d_nil ?_
 refine W.cond (decide ((s_bytes.length : Int) ≤ s_used)) rfl (fun c10z => ?_) (fun c10z => ?_)
 ·replace hM := M.e_t hM c10z
  simp only [qz1, qz2, qz3, qz4, qz5, qz6, ne_eq, qz7] at c10z
  refine W.draw (fun W => St w W [cBlk b_s [v_s_bytes, I s_used, I s_mix] 158] R) [(0, true), (1, true), (2, true), (3, true), (4, true), (5, true), (6, true), (7, true), (8, true), (9, true), (10, true), (11, true), (12, true), (13, true), (14, true), (15, true), (16, true), (17, true), (18, true)] mixed (by decide +kernel) rfl ?_
  intro w11z hx_
  replace H : St w w11z [cBlk b_s [v_s_bytes, I s_used, I s_mix] 158] R := H.ext hx_
  clear hx_
  refine ⟨(H.pick [0] (by decide) rfl), ?_⟩
  refine d_q rfl (fun w' H => x_mv (v := I ((s_bytes.getD (Int.toNat (s_used % (s_bytes.length : Int))) 0).toNat : Int)) rfl) ?_
  refine d_q rfl (fun w' H => x_mv (v := Pz b_s) rfl) ?_
  refine d_q rfl (fun w' H => x_nc (a := ⟨b_s, 0, none⟩) rfl) ?_
  refine d_q rfl (fun w' H => x_fa (a := Pz b_s) (v := Oz b_s 2) rfl (fa_blk (o := 0) Fd158_2 Sz3)) ?_
  refine d_q rfl (fun w' H => x_ld (p := Oz b_s 2) (v := I s_mix) rfl (ldb_sc Sc3 (H.blk (k := 0) rfl) rfl)) ?_
  obtain ⟨sd12z, hM⟩ := M.e_gd hM
  refine d_q rfl (fun w' H => x_ari (a := 11) (b := s_mix) (r := 11 * s_mix) rfl rfl rfl (by omega)) ?_
  refine d_q rfl (fun w' H => x_mv (v := Pz b_s) rfl) ?_
  refine d_q rfl (fun w' H => x_nc (a := ⟨b_s, 0, none⟩) rfl) ?_
  refine d_q rfl (fun w' H => x_fa (a := Pz b_s) (v := Oz b_s 1) rfl (fa_blk (o := 0) Fd158_1 Sz3)) ?_
  refine d_q rfl (fun w' H => x_ld (p := Oz b_s 1) (v := I s_used) rfl (ldb_sc Sc3 (H.blk (k := 0) rfl) rfl)) ?_
  refine d_q rfl (fun w' H => x_mv (v := Pz b_s) rfl) ?_
  refine d_q rfl (fun w' H => x_nc (a := ⟨b_s, 0, none⟩) rfl) ?_
  refine d_q rfl (fun w' H => x_fa (a := Pz b_s) (v := Pz b_s) rfl (fa_blk (o := 0) Fd158_0 Sz62)) ?_
  refine d_q rfl (fun w' H => x_ld (p := Pz b_s) (v := v_s_bytes) rfl (ldb_sc Sc62 (H.blk (k := 0) rfl) rfl)) ?_
  have hl13z := (hs_s_bytes).len_le
  refine d_q rfl (fun w' H => x_lenS T62.und rfl hs_s_bytes) ?_
  obtain ⟨sd14z, hM⟩ := M.e_gd hM
  refine d_q rfl (fun w' H => x_quo (a := s_used) (b := (s_bytes.length : Int)) rfl rfl (by omega)) ?_
  obtain ⟨sd15z, hM⟩ := M.e_gd hM
  refine d_q rfl (fun w' H => x_ari (a := 11 * s_mix) (b := s_used / (s_bytes.length : Int)) (r := (11 * s_mix) + (s_used / (s_bytes.length : Int))) rfl rfl rfl (by omega)) ?_
  obtain ⟨sd16z, hM⟩ := M.e_gd hM
  refine d_q rfl (fun w' H => x_ari (a := ((s_bytes.getD (Int.toNat (s_used % (s_bytes.length : Int))) 0).toNat : Int)) (b := (11 * s_mix) + (s_used / (s_bytes.length : Int))) (r := ((s_bytes.getD (Int.toNat (s_used % (s_bytes.length : Int))) 0).toNat : Int) + ((11 * s_mix) + (s_used / (s_bytes.length : Int)))) rfl rfl rfl (by omega)) ?_
  refine d_q rfl (fun w' H => x_as (v := I (((s_bytes.getD (Int.toNat (s_used % (s_bytes.length : Int))) 0).toNat : Int) + ((11 * s_mix) + (s_used / (s_bytes.length : Int))))) rfl) ?_
  refine d_nil ?_
  refine sQ rfl <| sM (Pz b_s) rfl <| sM (Pz b_s) rfl <| s_val (x_nc (a := ⟨b_s, 0, none⟩) rfl) <| s_val (x_fa (a := Pz b_s) (v := Oz b_s 2) rfl (fa_blk (o := 0) Fd158_2 Sz3)) <| s_val (x_ld (p := Oz b_s 2) (v := I s_mix) rfl (ldb_sc Sc3 (H.blk (k := 0) rfl) rfl)) ?_
  obtain ⟨sd17z, hM⟩ := M.e_gd hM
  refine sR 5 s_mix (5 * s_mix) rfl rfl rfl (by omega) <| sM (I (((s_bytes.getD (Int.toNat (s_used % (s_bytes.length : Int))) 0).toNat : Int) + ((11 * s_mix) + (s_used / (s_bytes.length : Int))))) rfl ?_
  obtain ⟨sd18z, hM⟩ := M.e_gd hM
  refine sR (5 * s_mix) (((s_bytes.getD (Int.toNat (s_used % (s_bytes.length : Int))) 0).toNat : Int) + ((11 * s_mix) + (s_used / (s_bytes.length : Int)))) ((5 * s_mix) + (((s_bytes.getD (Int.toNat (s_used % (s_bytes.length : Int))) 0).toNat : Int) + ((11 * s_mix) + (s_used / (s_bytes.length : Int))))) rfl rfl rfl (by omega) ?_
  obtain ⟨sd19z, hM⟩ := M.e_gd hM
  refine sR ((5 * s_mix) + (((s_bytes.getD (Int.toNat (s_used % (s_bytes.length : Int))) 0).toNat : Int) + ((11 * s_mix) + (s_used / (s_bytes.length : Int))))) 1 (((5 * s_mix) + (((s_bytes.getD (Int.toNat (s_used % (s_bytes.length : Int))) 0).toNat : Int) + ((11 * s_mix) + (s_used / (s_bytes.length : Int))))) + 1) rfl rfl rfl (by omega) ?_
  obtain ⟨sd20z, hM⟩ := M.e_gd hM
  refine s_val (x_rem' (a := ((5 * s_mix) + (((s_bytes.getD (Int.toNat (s_used % (s_bytes.length : Int))) 0).toNat : Int) + ((11 * s_mix) + (s_used / (s_bytes.length : Int))))) + 1) (b := 251) rfl rfl (by omega)) <| s_val (x_nc (a := ⟨b_s, 0, none⟩) rfl) <| s_val (x_fa (a := Pz b_s) (v := Oz b_s 2) rfl (fa_blk (o := 0) Fd158_2 Sz3)) ?_
  refine t_st (k := 0) (b := b_s) (off := 2) (cs := [v_s_bytes, I s_used, I s_mix]) (vs := [I ((((5 * s_mix) + (((s_bytes.getD (Int.toNat (s_used % (s_bytes.length : Int))) 0).toNat : Int) + ((11 * s_mix) + (s_used / (s_bytes.length : Int))))) + 1) % 251)]) (cs' := [v_s_bytes, I s_used, I ((((5 * s_mix) + (((s_bytes.getD (Int.toNat (s_used % (s_bytes.length : Int))) 0).toNat : Int) + ((11 * s_mix) + (s_used / (s_bytes.length : Int))))) + 1) % 251)]) (v := I ((((5 * s_mix) + (((s_bytes.getD (Int.toNat (s_used % (s_bytes.length : Int))) 0).toNat : Int) + ((11 * s_mix) + (s_used / (s_bytes.length : Int))))) + 1) % 251)) (L' := [cBlk b_s [v_s_bytes, I s_used, I ((((5 * s_mix) + (((s_bytes.getD (Int.toNat (s_used % (s_bytes.length : Int))) 0).toNat : Int) + ((11 * s_mix) + (s_used / (s_bytes.length : Int))))) + 1) % 251)] 158]) H rfl rfl rfl Sz3 rfl rfl rfl rfl rfl rfl ?_
  intro w21z H
  refine s_nil <| sQ rfl <| sM (Pz b_s) rfl <| s_val (x_nc (a := ⟨b_s, 0, none⟩) rfl) <| s_val (x_fa (a := Pz b_s) (v := Oz b_s 1) rfl (fa_blk (o := 0) Fd158_1 Sz3)) <| s_val (x_ld (p := Oz b_s 1) (v := I s_used) rfl (ldb_sc Sc3 (H.blk (k := 0) rfl) rfl)) ?_
  obtain ⟨sd22z, hM⟩ := M.e_gd hM
  refine sR s_used 1 (s_used + 1) rfl rfl rfl (by omega) <| s_val (x_nc (a := ⟨b_s, 0, none⟩) rfl) <| s_val (x_fa (a := Pz b_s) (v := Oz b_s 1) rfl (fa_blk (o := 0) Fd158_1 Sz3)) ?_
  refine t_st (k := 0) (b := b_s) (off := 1) (cs := [v_s_bytes, I s_used, I ((((5 * s_mix) + (((s_bytes.getD (Int.toNat (s_used % (s_bytes.length : Int))) 0).toNat : Int) + ((11 * s_mix) + (s_used / (s_bytes.length : Int))))) + 1) % 251)]) (vs := [I (s_used + 1)]) (cs' := [v_s_bytes, I (s_used + 1), I ((((5 * s_mix) + (((s_bytes.getD (Int.toNat (s_used % (s_bytes.length : Int))) 0).toNat : Int) + ((11 * s_mix) + (s_used / (s_bytes.length : Int))))) + 1) % 251)]) (v := I (s_used + 1)) (L' := [cBlk b_s [v_s_bytes, I (s_used + 1), I ((((5 * s_mix) + (((s_bytes.getD (Int.toNat (s_used % (s_bytes.length : Int))) 0).toNat : Int) + ((11 * s_mix) + (s_used / (s_bytes.length : Int))))) + 1) % 251)] 158]) H rfl rfl rfl Sz3 rfl rfl rfl rfl rfl rfl ?_
  intro w23z H
  refine s_nil <| W.seq <| sQ rfl <| sM (I n) rfl <| sC n 256 (decide (256 < n)) rfl rfl rfl <| s_nil ?_
  refine W.cond (decide (256 < n)) rfl (fun c24z => ?_) (fun c24z => ?_)
  ·replace hM := M.e_t hM c24z
   simp only [qz1, qz2, qz3, qz4, qz5, qz6, ne_eq, qz7] at c24z
   refine W.region rfl <| sM (I (((s_bytes.getD (Int.toNat (s_used % (s_bytes.length : Int))) 0).toNat : Int) + ((11 * s_mix) + (s_used / (s_bytes.length : Int))))) rfl ?_
   obtain ⟨sd25z, hM⟩ := M.e_gd hM
   refine sR 256 (((s_bytes.getD (Int.toNat (s_used % (s_bytes.length : Int))) 0).toNat : Int) + ((11 * s_mix) + (s_used / (s_bytes.length : Int)))) (256 * (((s_bytes.getD (Int.toNat (s_used % (s_bytes.length : Int))) 0).toNat : Int) + ((11 * s_mix) + (s_used / (s_bytes.length : Int))))) rfl rfl rfl (by omega) <| sM (Pz b_s) rfl <| s_val (x_nc (a := ⟨b_s, 0, none⟩) rfl) <| s_val (x_fa (a := Pz b_s) (v := Oz b_s 2) rfl (fa_blk (o := 0) Fd158_2 Sz3)) <| s_val (x_ld (p := Oz b_s 2) (v := I ((((5 * s_mix) + (((s_bytes.getD (Int.toNat (s_used % (s_bytes.length : Int))) 0).toNat : Int) + ((11 * s_mix) + (s_used / (s_bytes.length : Int))))) + 1) % 251)) rfl (ldb_sc Sc3 (H.blk (k := 0) rfl) rfl)) ?_
   obtain ⟨sd26z, hM⟩ := M.e_gd hM
   refine sR (256 * (((s_bytes.getD (Int.toNat (s_used % (s_bytes.length : Int))) 0).toNat : Int) + ((11 * s_mix) + (s_used / (s_bytes.length : Int))))) ((((5 * s_mix) + (((s_bytes.getD (Int.toNat (s_used % (s_bytes.length : Int))) 0).toNat : Int) + ((11 * s_mix) + (s_used / (s_bytes.length : Int))))) + 1) % 251) ((256 * (((s_bytes.getD (Int.toNat (s_used % (s_bytes.length : Int))) 0).toNat : Int) + ((11 * s_mix) + (s_used / (s_bytes.length : Int))))) + ((((5 * s_mix) + (((s_bytes.getD (Int.toNat (s_used % (s_bytes.length : Int))) 0).toNat : Int) + ((11 * s_mix) + (s_used / (s_bytes.length : Int))))) + 1) % 251)) rfl rfl rfl (by omega) <| sA (I ((256 * (((s_bytes.getD (Int.toNat (s_used % (s_bytes.length : Int))) 0).toNat : Int) + ((11 * s_mix) + (s_used / (s_bytes.length : Int))))) + ((((5 * s_mix) + (((s_bytes.getD (Int.toNat (s_used % (s_bytes.length : Int))) 0).toNat : Int) + ((11 * s_mix) + (s_used / (s_bytes.length : Int))))) + 1) % 251))) rfl <| s_nil <| sQ rfl <| sM (I ((256 * (((s_bytes.getD (Int.toNat (s_used % (s_bytes.length : Int))) 0).toNat : Int) + ((11 * s_mix) + (s_used / (s_bytes.length : Int))))) + ((((5 * s_mix) + (((s_bytes.getD (Int.toNat (s_used % (s_bytes.length : Int))) 0).toNat : Int) + ((11 * s_mix) + (s_used / (s_bytes.length : Int))))) + 1) % 251))) rfl <| sM (I n) rfl ?_
   obtain ⟨sd27z, hM⟩ := M.e_gd hM
   refine s_val (x_rem' (a := (256 * (((s_bytes.getD (Int.toNat (s_used % (s_bytes.length : Int))) 0).toNat : Int) + ((11 * s_mix) + (s_used / (s_bytes.length : Int))))) + ((((5 * s_mix) + (((s_bytes.getD (Int.toNat (s_used % (s_bytes.length : Int))) 0).toNat : Int) + ((11 * s_mix) + (s_used / (s_bytes.length : Int))))) + 1) % 251)) (b := n) rfl rfl (by omega)) <| sA (I (((256 * (((s_bytes.getD (Int.toNat (s_used % (s_bytes.length : Int))) 0).toNat : Int) + ((11 * s_mix) + (s_used / (s_bytes.length : Int))))) + ((((5 * s_mix) + (((s_bytes.getD (Int.toNat (s_used % (s_bytes.length : Int))) 0).toNat : Int) + ((11 * s_mix) + (s_used / (s_bytes.length : Int))))) + 1) % 251)) % n)) rfl <| s_nil ?_
   refine W.ret ?_
   have hr_ := M.e_pure hM
   exact ⟨_, resE_tmp rfl, ⟨(((256 * (((s_bytes.getD (Int.toNat (s_used % (s_bytes.length : Int))) 0).toNat : Int) + ((11 * s_mix) + (s_used / (s_bytes.length : Int))))) + ((((5 * s_mix) + (((s_bytes.getD (Int.toNat (s_used % (s_bytes.length : Int))) 0).toNat : Int) + ((11 * s_mix) + (s_used / (s_bytes.length : Int))))) + 1) % 251)) % n), (s_used + 1), ((((5 * s_mix) + (((s_bytes.getD (Int.toNat (s_used % (s_bytes.length : Int))) 0).toNat : Int) + ((11 * s_mix) + (s_used / (s_bytes.length : Int))))) + 1) % 251), hr_, rfl, H⟩⟩
  replace hM := M.e_f hM c24z
  simp only [qz1, qz2, qz3, qz4, qz5, qz6, ne_eq, qz7] at c24z
  refine W.skip <| sQ rfl <| sM (I (((s_bytes.getD (Int.toNat (s_used % (s_bytes.length : Int))) 0).toNat : Int) + ((11 * s_mix) + (s_used / (s_bytes.length : Int))))) rfl <| sM (I n) rfl ?_
  obtain ⟨sd28z, hM⟩ := M.e_gd hM
  refine s_val (x_rem' (a := ((s_bytes.getD (Int.toNat (s_used % (s_bytes.length : Int))) 0).toNat : Int) + ((11 * s_mix) + (s_used / (s_bytes.length : Int)))) (b := n) rfl rfl (by omega)) <| sA (I ((((s_bytes.getD (Int.toNat (s_used % (s_bytes.length : Int))) 0).toNat : Int) + ((11 * s_mix) + (s_used / (s_bytes.length : Int)))) % n)) rfl <| s_nil ?_
  refine W.ret ?_
  have hr_ := M.e_pure hM
  exact ⟨_, resE_tmp rfl, ⟨((((s_bytes.getD (Int.toNat (s_used % (s_bytes.length : Int))) 0).toNat : Int) + ((11 * s_mix) + (s_used / (s_bytes.length : Int)))) % n), (s_used + 1), ((((5 * s_mix) + (((s_bytes.getD (Int.toNat (s_used % (s_bytes.length : Int))) 0).toNat : Int) + ((11 * s_mix) + (s_used / (s_bytes.length : Int))))) + 1) % 251), hr_, rfl, H⟩⟩
 replace hM := M.e_f hM c10z
 simp only [qz1, qz2, qz3, qz4, qz5, qz6, ne_eq, qz7] at c10z
 refine W.skip <| sQ rfl <| sM (Pz b_s) rfl <| sM (Pz b_s) rfl <| s_val (x_nc (a := ⟨b_s, 0, none⟩) rfl) <| s_val (x_fa (a := Pz b_s) (v := Oz b_s 2) rfl (fa_blk (o := 0) Fd158_2 Sz3)) <| s_val (x_ld (p := Oz b_s 2) (v := I s_mix) rfl (ldb_sc Sc3 (H.blk (k := 0) rfl) rfl)) ?_
 obtain ⟨sd29z, hM⟩ := M.e_gd hM
 refine sR 5 s_mix (5 * s_mix) rfl rfl rfl (by omega) <| sM (I ((s_bytes.getD (Int.toNat (s_used % (s_bytes.length : Int))) 0).toNat : Int)) rfl ?_
 obtain ⟨sd30z, hM⟩ := M.e_gd hM
 refine sR (5 * s_mix) ((s_bytes.getD (Int.toNat (s_used % (s_bytes.length : Int))) 0).toNat : Int) ((5 * s_mix) + ((s_bytes.getD (Int.toNat (s_used % (s_bytes.length : Int))) 0).toNat : Int)) rfl rfl rfl (by omega) ?_
 obtain ⟨sd31z, hM⟩ := M.e_gd hM
 refine sR ((5 * s_mix) + ((s_bytes.getD (Int.toNat (s_used % (s_bytes.length : Int))) 0).toNat : Int)) 1 (((5 * s_mix) + ((s_bytes.getD (Int.toNat (s_used % (s_bytes.length : Int))) 0).toNat : Int)) + 1) rfl rfl rfl (by omega) ?_
 obtain ⟨sd32z, hM⟩ := M.e_gd hM
 refine s_val (x_rem' (a := ((5 * s_mix) + ((s_bytes.getD (Int.toNat (s_used % (s_bytes.length : Int))) 0).toNat : Int)) + 1) (b := 251) rfl rfl (by omega)) <| s_val (x_nc (a := ⟨b_s, 0, none⟩) rfl) <| s_val (x_fa (a := Pz b_s) (v := Oz b_s 2) rfl (fa_blk (o := 0) Fd158_2 Sz3)) ?_
 refine t_st (k := 0) (b := b_s) (off := 2) (cs := [v_s_bytes, I s_used, I s_mix]) (vs := [I ((((5 * s_mix) + ((s_bytes.getD (Int.toNat (s_used % (s_bytes.length : Int))) 0).toNat : Int)) + 1) % 251)]) (cs' := [v_s_bytes, I s_used, I ((((5 * s_mix) + ((s_bytes.getD (Int.toNat (s_used % (s_bytes.length : Int))) 0).toNat : Int)) + 1) % 251)]) (v := I ((((5 * s_mix) + ((s_bytes.getD (Int.toNat (s_used % (s_bytes.length : Int))) 0).toNat : Int)) + 1) % 251)) (L' := [cBlk b_s [v_s_bytes, I s_used, I ((((5 * s_mix) + ((s_bytes.getD (Int.toNat (s_used % (s_bytes.length : Int))) 0).toNat : Int)) + 1) % 251)] 158]) H rfl rfl rfl Sz3 rfl rfl rfl rfl rfl rfl ?_
 intro w33z H
 refine s_nil <| sQ rfl <| sM (Pz b_s) rfl <| s_val (x_nc (a := ⟨b_s, 0, none⟩) rfl) <| s_val (x_fa (a := Pz b_s) (v := Oz b_s 1) rfl (fa_blk (o := 0) Fd158_1 Sz3)) <| s_val (x_ld (p := Oz b_s 1) (v := I s_used) rfl (ldb_sc Sc3 (H.blk (k := 0) rfl) rfl)) ?_
 obtain ⟨sd34z, hM⟩ := M.e_gd hM
 refine sR s_used 1 (s_used + 1) rfl rfl rfl (by omega) <| s_val (x_nc (a := ⟨b_s, 0, none⟩) rfl) <| s_val (x_fa (a := Pz b_s) (v := Oz b_s 1) rfl (fa_blk (o := 0) Fd158_1 Sz3)) ?_
 refine t_st (k := 0) (b := b_s) (off := 1) (cs := [v_s_bytes, I s_used, I ((((5 * s_mix) + ((s_bytes.getD (Int.toNat (s_used % (s_bytes.length : Int))) 0).toNat : Int)) + 1) % 251)]) (vs := [I (s_used + 1)]) (cs' := [v_s_bytes, I (s_used + 1), I ((((5 * s_mix) + ((s_bytes.getD (Int.toNat (s_used % (s_bytes.length : Int))) 0).toNat : Int)) + 1) % 251)]) (v := I (s_used + 1)) (L' := [cBlk b_s [v_s_bytes, I (s_used + 1), I ((((5 * s_mix) + ((s_bytes.getD (Int.toNat (s_used % (s_bytes.length : Int))) 0).toNat : Int)) + 1) % 251)] 158]) H rfl rfl rfl Sz3 rfl rfl rfl rfl rfl rfl ?_
 intro w35z H
 refine s_nil <| W.seq <| sQ rfl <| sM (I n) rfl <| sC n 256 (decide (256 < n)) rfl rfl rfl <| s_nil ?_
 refine W.cond (decide (256 < n)) rfl (fun c36z => ?_) (fun c36z => ?_)
 ·replace hM := M.e_t hM c36z
  simp only [qz1, qz2, qz3, qz4, qz5, qz6, ne_eq, qz7] at c36z
  refine W.region rfl <| sM (I ((s_bytes.getD (Int.toNat (s_used % (s_bytes.length : Int))) 0).toNat : Int)) rfl ?_
  obtain ⟨sd37z, hM⟩ := M.e_gd hM
  refine sR 256 ((s_bytes.getD (Int.toNat (s_used % (s_bytes.length : Int))) 0).toNat : Int) (256 * ((s_bytes.getD (Int.toNat (s_used % (s_bytes.length : Int))) 0).toNat : Int)) rfl rfl rfl (by omega) <| sM (Pz b_s) rfl <| s_val (x_nc (a := ⟨b_s, 0, none⟩) rfl) <| s_val (x_fa (a := Pz b_s) (v := Oz b_s 2) rfl (fa_blk (o := 0) Fd158_2 Sz3)) <| s_val (x_ld (p := Oz b_s 2) (v := I ((((5 * s_mix) + ((s_bytes.getD (Int.toNat (s_used % (s_bytes.length : Int))) 0).toNat : Int)) + 1) % 251)) rfl (ldb_sc Sc3 (H.blk (k := 0) rfl) rfl)) ?_
  obtain ⟨sd38z, hM⟩ := M.e_gd hM
  refine sR (256 * ((s_bytes.getD (Int.toNat (s_used % (s_bytes.length : Int))) 0).toNat : Int)) ((((5 * s_mix) + ((s_bytes.getD (Int.toNat (s_used % (s_bytes.length : Int))) 0).toNat : Int)) + 1) % 251) ((256 * ((s_bytes.getD (Int.toNat (s_used % (s_bytes.length : Int))) 0).toNat : Int)) + ((((5 * s_mix) + ((s_bytes.getD (Int.toNat (s_used % (s_bytes.length : Int))) 0).toNat : Int)) + 1) % 251)) rfl rfl rfl (by omega) <| sA (I ((256 * ((s_bytes.getD (Int.toNat (s_used % (s_bytes.length : Int))) 0).toNat : Int)) + ((((5 * s_mix) + ((s_bytes.getD (Int.toNat (s_used % (s_bytes.length : Int))) 0).toNat : Int)) + 1) % 251))) rfl <| s_nil <| sQ rfl <| sM (I ((256 * ((s_bytes.getD (Int.toNat (s_used % (s_bytes.length : Int))) 0).toNat : Int)) + ((((5 * s_mix) + ((s_bytes.getD (Int.toNat (s_used % (s_bytes.length : Int))) 0).toNat : Int)) + 1) % 251))) rfl <| sM (I n) rfl ?_
  obtain ⟨sd39z, hM⟩ := M.e_gd hM
  refine s_val (x_rem' (a := (256 * ((s_bytes.getD (Int.toNat (s_used % (s_bytes.length : Int))) 0).toNat : Int)) + ((((5 * s_mix) + ((s_bytes.getD (Int.toNat (s_used % (s_bytes.length : Int))) 0).toNat : Int)) + 1) % 251)) (b := n) rfl rfl (by omega)) <| sA (I (((256 * ((s_bytes.getD (Int.toNat (s_used % (s_bytes.length : Int))) 0).toNat : Int)) + ((((5 * s_mix) + ((s_bytes.getD (Int.toNat (s_used % (s_bytes.length : Int))) 0).toNat : Int)) + 1) % 251)) % n)) rfl <| s_nil ?_
  refine W.ret ?_
  have hr_ := M.e_pure hM
  exact ⟨_, resE_tmp rfl, ⟨(((256 * ((s_bytes.getD (Int.toNat (s_used % (s_bytes.length : Int))) 0).toNat : Int)) + ((((5 * s_mix) + ((s_bytes.getD (Int.toNat (s_used % (s_bytes.length : Int))) 0).toNat : Int)) + 1) % 251)) % n), (s_used + 1), ((((5 * s_mix) + ((s_bytes.getD (Int.toNat (s_used % (s_bytes.length : Int))) 0).toNat : Int)) + 1) % 251), hr_, rfl, H⟩⟩
 replace hM := M.e_f hM c36z
 simp only [qz1, qz2, qz3, qz4, qz5, qz6, ne_eq, qz7] at c36z
 refine W.skip <| sQ rfl <| sM (I ((s_bytes.getD (Int.toNat (s_used % (s_bytes.length : Int))) 0).toNat : Int)) rfl <| sM (I n) rfl ?_
 obtain ⟨sd40z, hM⟩ := M.e_gd hM
 refine s_val (x_rem' (a := ((s_bytes.getD (Int.toNat (s_used % (s_bytes.length : Int))) 0).toNat : Int)) (b := n) rfl rfl (by omega)) <| sA (I (((s_bytes.getD (Int.toNat (s_used % (s_bytes.length : Int))) 0).toNat : Int) % n)) rfl <| s_nil ?_
 refine W.ret ?_
 have hr_ := M.e_pure hM
 exact ⟨_, resE_tmp rfl, ⟨(((s_bytes.getD (Int.toNat (s_used % (s_bytes.length : Int))) 0).toNat : Int) % n), (s_used + 1), ((((5 * s_mix) + ((s_bytes.getD (Int.toNat (s_used % (s_bytes.length : Int))) 0).toNat : Int)) + 1) % 251), hr_, rfl, H⟩⟩

def m_nilometerkit_Stream_Within (s_bytes : List UInt8) (s_used : Int) (s_mix : Int) (lo : Int) (hi : Int) : M (Int × Int × Int) :=
  M.grd (decide ((-9223372036854775808 : Int) ≤ (hi - lo)) && decide ((hi - lo) ≤ (9223372036854775807 : Int))) <|
  M.grd (decide ((-9223372036854775808 : Int) ≤ ((hi - lo) + 1)) && decide (((hi - lo) + 1) ≤ (9223372036854775807 : Int))) <|
  M.bind (m_nilometerkit_Stream_Next s_bytes s_used s_mix ((hi - lo) + 1)) fun (r2, q1, q2) =>
  M.grd (decide ((-9223372036854775808 : Int) ≤ (lo + r2)) && decide ((lo + r2) ≤ (9223372036854775807 : Int))) <|
  M.pure ((lo + r2), q1, q2)
theorem nilometerkit_Stream_Within_ok {R : List Chunk} {b_s : Nat} {C_s_bytes : Cells} {v_s_bytes : Value} (s_bytes : List UInt8) (s_used : Int) (s_mix : Int) (lo : Int) (hi : Int) (hC_s_bytes : Reads R C_s_bytes) (hs_s_bytes : Sl C_s_bytes v_s_bytes s_bytes) {r : (Int × Int × Int)} (hM : (m_nilometerkit_Stream_Within s_bytes s_used s_mix lo hi).Ends r) (w : World) (H : St w w [cBlk b_s [v_s_bytes, I s_used, I s_mix] 158] R) : Ret Try.prog 43 #[Pz b_s, I lo, I hi] w fun v w' => ∃ (y0 : Int) (y1 : Int) (y2 : Int), (y0, y1, y2) = r ∧ v = I y0 ∧ St w w' [cBlk b_s [v_s_bytes, I y1, I y2] 158] R := by
 refine ret_of_W Try.func43 rfl rfl rfl ?_
 refine sQ rfl <| sA (I 0) rfl <| s_nil <| sQ rfl <| sM (I lo) rfl <| sM (Pz b_s) rfl <| sM (I hi) rfl <| sM (I lo) rfl ?_
 obtain ⟨sd1z, hM⟩ := M.e_gd hM
 refine sR hi lo (hi - lo) rfl rfl rfl (by omega) ?_
 obtain ⟨sd2z, hM⟩ := M.e_gd hM
 refine sR (hi - lo) 1 ((hi - lo) + 1) rfl rfl rfl (by omega) ?_
 obtain ⟨r4z, hx3z, hM⟩ := M.e_bind hM
 refine s_call cf44 [Pz b_s, I ((hi - lo) + 1)] rfl (nilometerkit_Stream_Next_ok s_bytes s_used s_mix ((hi - lo) + 1) (hC_s_bytes.app _) hs_s_bytes hx3z _ (St.give (T := []) H rfl)) ?_
 rintro vq w5z ⟨r2, q1, q2, hr6z, hvq, H2_⟩
 subst hr6z
 subst vq
 try dsimp only at hM
 replace H : St w w5z [cBlk b_s [v_s_bytes, I q1, I q2] 158] R := H.back H2_ rfl
 clear H2_
 obtain ⟨sd7z, hM⟩ := M.e_gd hM
 refine sR lo r2 (lo + r2) rfl rfl rfl (by omega) <| sA (I (lo + r2)) rfl <| s_nil ?_
 refine W.ret ?_
 have hr_ := M.e_pure hM
 exact ⟨_, resE_tmp rfl, ⟨(lo + r2), q1, q2, hr_, rfl, H⟩⟩

def m_nilometerlaw13_Made_b2 (s_bytes : List UInt8) (s8 : Nat) : (Int × Int × Int × (List Int)) → M ((Int × Int × Int × (List Int)) ⊕ (Int × Int × (List Int) × (List Int))) := fun (s2, s3, k, l) =>
  bif (((decide (0 ≤ k)) && (decide ((l.length : Int) < 5))) && (decide (2 < (s8 : Int)))) then (
  M.bind (m_nilometerkit_Stream_Next s_bytes s2 s3 3) fun (r5, q14, q24) =>
  bif r5 == 0 then (
  M.grd (decide ((l.length + ([(k : Int)]).length) * 8 ≤ 140737488355328)) <|
  M.grd (decide ((-9223372036854775808 : Int) ≤ (k - 1)) && decide ((k - 1) ≤ (9223372036854775807 : Int))) <|
  M.pure (.inl (q14, q24, k - 1, l ++ ([(k : Int)]))))
  else (
  M.grd (decide ((-9223372036854775808 : Int) ≤ (k - 1)) && decide ((k - 1) ≤ (9223372036854775807 : Int))) <|
  M.pure (.inl (q14, q24, k - 1, l))))
  else (
  M.pure (.inr (s2, s3, l, l)))
def m_nilometerlaw13_Made_b3 (s_bytes : List UInt8) (r2 : Int) : (Int × Int × Nat × (List Work)) → M ((Int × Int × Nat × (List Work)) ⊕ ((List Work) × (List Work) × Int × Int)) := fun (s6, s7, s8, l4) =>
  bif decide ((s8 : Int) < r2) then (
  M.bind (m_nilometerkit_Stream_Next s_bytes s6 s7 2000) fun (r3, q12, q22) =>
  M.bind (m_nilometerkit_Stream_Next s_bytes q12 q22 60) fun (r4, q13, q23) =>
  M.grd (decide ((-9223372036854775808 : Int) ≤ ((s8 : Int) - 1)) && decide (((s8 : Int) - 1) ≤ (9223372036854775807 : Int))) <|
  M.bind (M.iter (m_nilometerlaw13_Made_b2 s_bytes s8) (q13, q23, (s8 : Int) - 1, [])) fun (s4, s5, l2, l3) =>
  M.grd (decide ((l4.length + ([(⟨l3, (r3 : Int), (r4 : Int)⟩ : Work)]).length) * 40 ≤ 140737488355328)) <|
  M.grd (decide ((-9223372036854775808 : Int) ≤ ((s8 : Int) + 1)) && decide (((s8 : Int) + 1) ≤ (9223372036854775807 : Int))) <|
  M.pure (.inl (s4, s5, s8 + 1, l4 ++ ([(⟨l3, (r3 : Int), (r4 : Int)⟩ : Work)]))))
  else (
  M.pure (.inr (l4, l4, s6, s7)))
def m_nilometerlaw13_Made (s_bytes : List UInt8) (s_used : Int) (s_mix : Int) (most : Int) : M ((List Work) × Int × Int) :=
  M.bind (m_nilometerkit_Stream_Within s_bytes s_used s_mix 2 most) fun (r2, q1, q2) =>
  M.bind (M.iter (m_nilometerlaw13_Made_b3 s_bytes r2) (q1, q2, 0, [])) fun (l5, l6, s9, s10) =>
  M.pure (l6, s9, s10)
theorem nilometerlaw13_Made_ok {R : List Chunk} {b_s : Nat} {C_s_bytes : Cells} {v_s_bytes : Value} (s_bytes : List UInt8) (s_used : Int) (s_mix : Int) (most : Int) (hC_s_bytes : Reads R C_s_bytes) (hs_s_bytes : Sl C_s_bytes v_s_bytes s_bytes) {r : ((List Work) × Int × Int)} (hM : (m_nilometerlaw13_Made s_bytes s_used s_mix most).Ends r) (w : World) (H : St w w [cBlk b_s [v_s_bytes, I s_used, I s_mix] 158] R) : Ret Try.prog 41 #[Pz b_s, I most] w fun v w' => ∃ (y0 : List Work) (y1 : Int) (y2 : Int) (u0 : Value) (rr1 : List (Raw 2)) (Bs2 : Base), (y0, y1, y2) = r ∧ v = u0 ∧ St w w' [cOwn (α := Raw 2) 60 u0 rr1, cRo Bs2, cBlk b_s [v_s_bytes, I y1, I y2] 158] R ∧ RepR (α := Work) Bs2.cells rr1 y0 := by
 refine ret_of_W Try.func41 rfl rfl rfl ?_
 refine sQ rfl <| sA (.slice none 0 0) rfl <| s_nil <| sQ rfl <| sA (.slice none 0 0) rfl <| s_nil <| W.seq <| sQ rfl <| sM (Pz b_s) rfl ?_
 refine sM (I most) rfl ?_
 obtain ⟨r2z, hx1z, hM⟩ := M.e_bind hM
 refine s_call cf43 [Pz b_s, I 2, I most] rfl (nilometerkit_Stream_Within_ok s_bytes s_used s_mix 2 most (hC_s_bytes.app _) hs_s_bytes hx1z _ (St.give (T := []) H rfl)) ?_
 rintro vq w3z ⟨r2, q1, q2, hr4z, hvq, H2_⟩
 subst hr4z
 subst vq
 try dsimp only at hM
 replace H : St w w3z [cBlk b_s [v_s_bytes, I q1, I q2] 158] R := H.back H2_ rfl
 clear H2_
 refine sM (I 0) rfl <| s_nil <| W.block ?_
 obtain ⟨Bs_12, H⟩ := H.emptyE
 replace H : St w w3z [cOwn (α := Raw 2) 60 (.slice none 0 0) ([]), cRo Bs_12, cBlk b_s [v_s_bytes, I q1, I q2] 158] R := H.nilOwn (α := Raw 2) 60
 have hr5z : RepR (α := Work) (n := 2) Bs_12.cells [] [] := .nil
 obtain ⟨ex6z, hi7z, hk8z⟩ := M.e_bind hM
 obtain ⟨m0_, hi7z⟩ := M.e_iter hi7z
 refine W.loop (fun m σ W => ∃ (s6 : Int) (s7 : Int) (s8 : Nat) (l4 : List Work) (v_l4 : Value) (rw_l4 : List (Raw 2)) (B_l4 : Base) (ρ : Env), σ = upds ρ [(0, Pz b_s), (5, v_l4), (11, I r2), (12, I (s8 : Int))] ∧ M.iterN (m_nilometerlaw13_Made_b3 s_bytes r2) m (s6, s7, s8, l4) = some ex6z ∧ St w W [cOwn (α := Raw 2) 60 v_l4 rw_l4, cRo B_l4, cBlk b_s [v_s_bytes, I s6, I s7] 158] R ∧ RepR (α := Work) B_l4.cells rw_l4 l4) ?_ ?_
 ·exact ⟨_, q1, q2, 0, [], (.slice none 0 0), [], Bs_12, _, upds_of _ _ ⟨rfl, rfl, rfl, rfl, trivial⟩, hi7z, H, hr5z⟩
 rintro m11z σ w9z ⟨s6, s7, s8, l4, v_l4, rw_l4, B_l4, ρ, rfl, hI10z, H, hr_l4⟩
 obtain ⟨m12z, lt13z, x14z, hM, hN15z⟩ := M.e_iterN hI10z
 simp only [m_nilometerlaw13_Made_b3] at hM
 clear hI10z
 refine sQ rfl <| sC (s8 : Int) r2 (decide ((s8 : Int) < r2)) rfl rfl rfl <| s_nil <| W.seq ?_
 refine W.cond (decide ((s8 : Int) < r2)) rfl (fun c16z => ?_) (fun c16z => ?_)
 ·replace hM := M.e_t hM c16z
  simp only [qz1, qz2, qz3, qz4, qz5, qz6, ne_eq, qz7] at c16z
  refine W.skip <| W.seq <| W.block <| sQ rfl <| sM (I (s8 : Int)) rfl <| sA (I (s8 : Int)) rfl <| s_nil <| sQ rfl <| sM (Pz b_s) rfl ?_
  obtain ⟨r18z, hx17z, hM⟩ := M.e_bind hM
  refine s_call cf44 [Pz b_s, I 2000] rfl (nilometerkit_Stream_Next_ok s_bytes s6 s7 2000 (hC_s_bytes.app _) hs_s_bytes hx17z _ (St.give (L := [cBlk b_s [v_s_bytes, I s6, I s7] 158, cOwn (α := Raw 2) 60 v_l4 rw_l4, cRo B_l4]) (A := [cBlk b_s [v_s_bytes, I s6, I s7] 158]) (T := [cOwn (α := Raw 2) 60 v_l4 rw_l4, cRo B_l4]) (H.pick [2, 0, 1] (by decide) rfl) rfl)) ?_
  rintro vq w19z ⟨r3, q12, q22, hr20z, hvq, H2_⟩
  subst hr20z
  subst vq
  try dsimp only at hM
  replace H : St w w19z [cBlk b_s [v_s_bytes, I q12, I q22] 158, cOwn (α := Raw 2) 60 v_l4 rw_l4, cRo B_l4] R := H.pick [2, 0, 1] (by decide) rfl |>.back H2_ rfl
  clear H2_
  refine sM (Pz b_s) rfl ?_
  obtain ⟨r22z, hx21z, hM⟩ := M.e_bind hM
  refine s_call cf44 [Pz b_s, I 60] rfl (nilometerkit_Stream_Next_ok s_bytes q12 q22 60 (hC_s_bytes.app _) hs_s_bytes hx21z _ (St.give (T := [cOwn (α := Raw 2) 60 v_l4 rw_l4, cRo B_l4]) H rfl)) ?_
  rintro vq w23z ⟨r4, q13, q23, hr24z, hvq, H2_⟩
  subst hr24z
  subst vq
  try dsimp only at hM
  replace H : St w w23z [cBlk b_s [v_s_bytes, I q13, I q23] 158, cOwn (α := Raw 2) 60 v_l4 rw_l4, cRo B_l4] R := H.back H2_ rfl
  clear H2_
  refine s_val (x_bld (ps := [(1, I r3), (2, I r4)]) (zs := [.slice none 0 0, I 0, I 0]) (L' := [.slice none 0 0, I r3, I r4]) rfl Try.underlying60 Al60 rfl (Bd60 Try.underlying60) (.cons (cs := [I r3]) rfl rfl rfl rfl rfl <| .cons (cs := [I r4]) rfl rfl rfl rfl rfl <| .nil)) ?_
  refine t_alloc (cs := [.slice none 0 0, I 0, I 0]) H Al60 rfl ?_
  intro b_1 w25z H
  refine t_st (k := 0) (b := b_1) (off := 0) (cs := [.slice none 0 0, I 0, I 0]) (vs := [.slice none 0 0, I r3, I r4]) (cs' := [.slice none 0 0, I r3, I r4]) (v := .agg #[.slice none 0 0, I r3, I r4]) (L' := [cBlk b_1 [.slice none 0 0, I r3, I r4] 60, cBlk b_s [v_s_bytes, I q13, I q23] 158, cOwn (α := Raw 2) 60 v_l4 rw_l4, cRo B_l4]) H rfl rfl rfl Sz60 rfl rfl rfl rfl rfl rfl ?_
  intro w26z H
  refine s_nil <| W.seq <| sQ rfl <| sM (I (s8 : Int)) rfl ?_
  obtain ⟨sd27z, hM⟩ := M.e_gd hM
  refine sR (s8 : Int) 1 ((s8 : Int) - 1) rfl rfl rfl (by omega) <| sA (I ((s8 : Int) - 1)) rfl <| s_nil <| W.block ?_
  replace H : St w w26z [cOwn (α := Int) 3 (.slice none 0 0) ([]), cBlk b_1 [.slice none 0 0, I r3, I r4] 60, cBlk b_s [v_s_bytes, I q13, I q23] 158, cOwn (α := Raw 2) 60 v_l4 rw_l4, cRo B_l4] R := H.nilOwn (α := Int) 3
  obtain ⟨ex28z, hi29z, hk30z⟩ := M.e_bind hM
  obtain ⟨m0_, hi29z⟩ := M.e_iter hi29z
  refine W.loop (fun m σ W => ∃ (s2 : Int) (s3 : Int) (k : Int) (l : List Int) (v_l : Value) (ρ : Env), σ = upds ρ [(0, Pz b_s), (5, v_l4), (6, I (s8 : Int)), (7, Pz b_1), (8, I k), (11, I r2), (12, I (s8 : Int))] ∧ M.iterN (m_nilometerlaw13_Made_b2 s_bytes s8) m (s2, s3, k, l) = some ex28z ∧ St w W [cOwn (α := Int) 3 v_l l, cBlk b_1 [v_l, I r3, I r4] 60, cBlk b_s [v_s_bytes, I s2, I s3] 158, cOwn (α := Raw 2) 60 v_l4 rw_l4, cRo B_l4] R) ?_ ?_
  ·exact ⟨_, q13, q23, (s8 : Int) - 1, [], (.slice none 0 0), _, upds_of _ _ ⟨rfl, rfl, rfl, rfl, rfl, rfl, rfl, trivial⟩, hi29z, H⟩
  rintro m33z σ w31z ⟨s2, s3, k, l, v_l, ρ, rfl, hI32z, H⟩
  obtain ⟨m34z, lt35z, x36z, hM, hN37z⟩ := M.e_iterN hI32z
  simp only [m_nilometerlaw13_Made_b2] at hM
  clear hI32z
  refine W.seq <| sQ rfl <| sM (I k) rfl <| sC k 0 (decide (0 ≤ k)) rfl rfl rfl <| sM (B (decide (0 ≤ k))) rfl <| g_val (decide (0 ≤ k)) (gy_t rfl) (fun hg => x_fa (a := Pz b_1) (v := Pz b_1) rfl (fa_blk (o := 0) Fd60_0 Sz34)) <| g_val (decide (0 ≤ k)) (gy_t rfl) (fun hg => x_ld (p := Pz b_1) (v := v_l) (gd_of (c := decide (0 ≤ k)) hg (Pz b_1)) (ldb_sc Sc34 (H.blk (k := 1) rfl) rfl)) <| g_val (decide (0 ≤ k)) (gy_t rfl) (fun hg => x_lenS T34.und (gd_of (c := decide (0 ≤ k)) hg (v_l)) (ownSl (H.get (k := 0) rfl))) <| g_val (decide (0 ≤ k)) (gy_t rfl) (fun hg => x_cmp (kd := .i64) (a := (l.length : Int)) (b := 5) (r := decide ((l.length : Int) < 5)) (gd_of (c := decide (0 ≤ k)) hg (I (l.length : Int))) rfl rfl) <| s_val (x_pand (b := decide (0 ≤ k)) (r := decide ((l.length : Int) < 5)) rfl (fun hb => gd_of (c := decide (0 ≤ k)) (by first | exact hb | (rw [hb]; rfl) | simp_all) (B (decide ((l.length : Int) < 5)))) rfl) <| sM (B ((decide (0 ≤ k)) && (decide ((l.length : Int) < 5)))) rfl ?_
  refine g_val ((decide (0 ≤ k)) && (decide ((l.length : Int) < 5))) (gy_t rfl) (fun hg => x_mv (v := I (s8 : Int)) rfl) <| g_val ((decide (0 ≤ k)) && (decide ((l.length : Int) < 5))) (gy_t rfl) (fun hg => x_cmp (kd := .i64) (a := (s8 : Int)) (b := 2) (r := decide (2 < (s8 : Int))) (gd_of (c := ((decide (0 ≤ k)) && (decide ((l.length : Int) < 5)))) hg (I (s8 : Int))) rfl rfl) <| s_val (x_pand (b := ((decide (0 ≤ k)) && (decide ((l.length : Int) < 5)))) (r := decide (2 < (s8 : Int))) rfl (fun hb => gd_of (c := ((decide (0 ≤ k)) && (decide ((l.length : Int) < 5)))) (by first | exact hb | (rw [hb]; rfl) | simp_all) (B (decide (2 < (s8 : Int))))) rfl) <| s_nil ?_
  refine W.cond (((decide (0 ≤ k)) && (decide ((l.length : Int) < 5))) && (decide (2 < (s8 : Int)))) rfl (fun c39z => ?_) (fun c39z => ?_)
  ·replace hM := M.e_t hM c39z
   refine W.skip <| W.seq <| W.block <| sQ rfl <| sM (Pz b_s) rfl ?_
   obtain ⟨r41z, hx40z, hM⟩ := M.e_bind hM
   refine s_call cf44 [Pz b_s, I 3] rfl (nilometerkit_Stream_Next_ok s_bytes s2 s3 3 (hC_s_bytes.app _) hs_s_bytes hx40z _ (St.give (L := [cBlk b_s [v_s_bytes, I s2, I s3] 158, cOwn (α := Int) 3 v_l l, cBlk b_1 [v_l, I r3, I r4] 60, cOwn (α := Raw 2) 60 v_l4 rw_l4, cRo B_l4]) (A := [cBlk b_s [v_s_bytes, I s2, I s3] 158]) (T := [cOwn (α := Int) 3 v_l l, cBlk b_1 [v_l, I r3, I r4] 60, cOwn (α := Raw 2) 60 v_l4 rw_l4, cRo B_l4]) (H.pick [2, 0, 1, 3, 4] (by decide) rfl) rfl)) ?_
   rintro vq w42z ⟨r5, q14, q24, hr43z, hvq, H2_⟩
   subst hr43z
   subst vq
   try dsimp only at hM
   replace H : St w w42z [cBlk b_s [v_s_bytes, I q14, I q24] 158, cOwn (α := Int) 3 v_l l, cBlk b_1 [v_l, I r3, I r4] 60, cOwn (α := Raw 2) 60 v_l4 rw_l4, cRo B_l4] R := H.pick [2, 0, 1, 3, 4] (by decide) rfl |>.back H2_ rfl
   clear H2_
   refine sC r5 0 (r5 == 0) rfl rfl rfl <| s_nil ?_
   refine W.cond (r5 == 0) rfl (fun c44z => ?_) (fun c44z => ?_)
   ·replace hM := M.e_t hM c44z
    simp only [qz1, qz2, qz3, qz4, qz5, qz6, ne_eq, qz7] at c44z
    refine W.region rfl <| s_val (x_fa (a := Pz b_1) (v := Pz b_1) rfl (fa_blk (o := 0) Fd60_0 Sz34)) <| s_val (x_ld (p := Pz b_1) (v := v_l) rfl (ldb_sc Sc34 (H.blk (k := 2) rfl) rfl)) <| sM (I k) rfl ?_
    refine t_bs (α := Int) T34 [I k] [(k : Int)] H rfl (.cons rfl (Flat.rep_enc _ (k : Int)) <| .nil) rfl rfl rfl ?_
    intro v45z w46z H
    obtain ⟨sd47z, hM⟩ := M.e_gd hM
    refine t_app (α := Int) (k := 2) (l := l) (l2 := [(k : Int)]) (l' := l ++ ([(k : Int)])) (vy := v45z) T34 rfl H rfl rfl rfl (ownSl (H.get (k := 0) rfl)) (ownLe _ (H.get (k := 0) rfl)) (rfl) (by first | omega | (simp only [List.length_nil] at *; omega)) ?_
    intro v48z w49z H
    replace H : St w w49z [cOwn (α := Int) 3 v45z ([(k : Int)]), cBlk b_s [v_s_bytes, I q14, I q24] 158, cOwn (α := Int) 3 v48z (l ++ ([(k : Int)])), cBlk b_1 [v_l, I r3, I r4] 60, cOwn (α := Raw 2) 60 v_l4 rw_l4, cRo B_l4] R := H
    refine s_val (x_fa (a := Pz b_1) (v := Pz b_1) rfl (fa_blk (o := 0) Fd60_0 Sz34)) ?_
    refine t_st (k := 3) (b := b_1) (off := 0) (cs := [v_l, I r3, I r4]) (vs := [v48z]) (cs' := [v48z, I r3, I r4]) (v := v48z) (L' := [cOwn (α := Int) 3 v45z ([(k : Int)]), cBlk b_s [v_s_bytes, I q14, I q24] 158, cOwn (α := Int) 3 v48z (l ++ ([(k : Int)])), cBlk b_1 [v48z, I r3, I r4] 60, cOwn (α := Raw 2) 60 v_l4 rw_l4, cRo B_l4]) H rfl rfl rfl Sz34 (Sl.cells (ownSl (H.get (k := 2) rfl))) rfl rfl (by simp only [List.all_cons, List.all_nil, Bool.true_and, Bool.and_true, Sl.oc (ownSl (H.get (k := 2) rfl))]; try rfl) rfl rfl ?_
    intro w50z H
    refine s_nil <| W.region rfl <| sM (I k) rfl ?_
    obtain ⟨sd51z, hM⟩ := M.e_gd hM
    refine sR k 1 (k - 1) rfl rfl rfl (by omega) <| sA (I (k - 1)) rfl <| s_nil ?_
    exact ⟨m34z, lt35z, q14, q24, k - 1, l ++ ([(k : Int)]), v48z, _, upds_of _ _ ⟨rfl, rfl, rfl, rfl, rfl, rfl, rfl, trivial⟩, M.e_inl hM hN37z, (H.pick [2, 3, 1, 4, 5] (by decide) rfl)⟩
   replace hM := M.e_f hM c44z
   simp only [qz1, qz2, qz3, qz4, qz5, qz6, ne_eq, qz7] at c44z
   refine W.skip <| W.region rfl <| sM (I k) rfl ?_
   obtain ⟨sd52z, hM⟩ := M.e_gd hM
   refine sR k 1 (k - 1) rfl rfl rfl (by omega) <| sA (I (k - 1)) rfl <| s_nil ?_
   exact ⟨m34z, lt35z, q14, q24, k - 1, l, v_l, _, upds_of _ _ ⟨rfl, rfl, rfl, rfl, rfl, rfl, rfl, trivial⟩, M.e_inl hM hN37z, (H.pick [1, 2, 0, 3, 4] (by decide) rfl)⟩
  replace hM := M.e_f hM c39z
  refine W.exit ?_
  have hX53z := M.e_inr hM hN37z
  subst hX53z
  replace hM := hk30z
  try dsimp only at hM
  refine W.region rfl <| sM v_l4 rfl <| s_val (x_ld (p := Pz b_1) (v := .agg #[v_l, I r3, I r4]) rfl (ldb_ag (ds := [v_l, I r3, I r4]) Ag60 Sz60 (H.blk (k := 1) rfl) rfl rfl)) ?_
  obtain ⟨Bs_5, H⟩ := H.emptyE
  obtain ⟨Bs_6, H, hs55z⟩ := H.freezeE (k := 1) rfl
  replace H : St w w31z [cRo Bs_5, cRo Bs_6, cBlk b_1 [v_l, I r3, I r4] 60, cBlk b_s [v_s_bytes, I s2, I s3] 158, cOwn (α := Raw 2) 60 v_l4 rw_l4, cRo B_l4] R := H
  have hq54z := hs55z
  obtain ⟨Bs_7, H, le56z, le57z⟩ := H.joinE (i := 0) (j := 1) rfl rfl
  replace hq54z := hq54z.mono le57z
  obtain ⟨rw58z, hrw_rw58z⟩ : ∃ r : Raw 2, r.cs = [v_l, I r3, I r4] := ⟨Raw.of [v_l, I r3, I r4] rfl (by simp only [List.all_cons, List.all_nil, Bool.true_and, Bool.and_true, Sl.oc hq54z]; try rfl), rfl⟩
  have hr59z : RepR (α := Work) Bs_7.cells [rw58z] [(⟨l, (r3 : Int), (r4 : Int)⟩ : Work)] := .cons (by rw [hrw_rw58z]; exact ⟨_, rfl, hq54z⟩) <| .nil
  refine t_bs (α := Raw 2) T22 [.agg #[v_l, I r3, I r4]] [rw58z] H rfl (.cons (by rw [show (Flat.enc rw58z : List Value) = rw58z.cs from rfl, hrw_rw58z]; rfl) (Flat.rep_enc _ _) <| .nil) rfl rfl rfl ?_
  intro v60z w61z H
  replace H : St w w61z [cOwn (α := Raw 2) 60 v60z ([rw58z]), cRo Bs_7, cRo Bs_5, cRo Bs_6, cBlk b_1 [v_l, I r3, I r4] 60, cBlk b_s [v_s_bytes, I s2, I s3] 158, cOwn (α := Raw 2) 60 v_l4 rw_l4, cRo B_l4] R := H
  obtain ⟨sd62z, hM⟩ := M.e_gd hM
  have hr63z := hr59z
  obtain ⟨Bs_11, H, le64z, le65z⟩ := H.joinE (i := 7) (j := 1) rfl rfl
  replace hr_l4 := hr_l4.mono le64z
  replace hr63z := hr63z.mono le65z
  have hr68z := hr_l4.app hr63z
  refine t_app (α := Raw 2) (k := 7) (l := rw_l4) (l2 := [rw58z]) (l' := rw_l4 ++ ([rw58z])) (vy := v60z) T22 rfl H rfl rfl rfl (ownSl (H.get (k := 1) rfl)) (ownLe _ (H.get (k := 1) rfl)) (rfl) (by have a_ := hr_l4.len; have b_ := hr63z.len; simp only [List.length_nil] at *; first | omega | (rw [a_, b_]; omega)) ?_
  intro v66z w67z H
  replace H : St w w67z [cRo Bs_11, cOwn (α := Raw 2) 60 v60z ([rw58z]), cRo Bs_7, cRo Bs_5, cRo Bs_6, cBlk b_1 [v_l, I r3, I r4] 60, cBlk b_s [v_s_bytes, I s2, I s3] 158, cOwn (α := Raw 2) 60 v66z (rw_l4 ++ ([rw58z])), cRo B_l4] R := H
  refine sA v66z rfl <| s_nil <| W.region rfl ?_
  obtain ⟨sd69z, hM⟩ := M.e_gd hM
  refine sR (s8 : Int) 1 ((s8 : Int) + 1) rfl rfl rfl (by omega) <| sM (I ((s8 : Int) + 1)) rfl <| s_nil ?_
  exact ⟨m12z, lt13z, s2, s3, s8 + 1, l4 ++ ([(⟨l, (r3 : Int), (r4 : Int)⟩ : Work)]), v66z, rw_l4 ++ ([rw58z]), Bs_11, _, upds_of _ _ ⟨rfl, rfl, rfl, rfl, trivial⟩, M.e_inl hM hN15z, (H.pick [7, 0, 6] (by decide) rfl), hr68z⟩
 replace hM := M.e_f hM c16z
 simp only [qz1, qz2, qz3, qz4, qz5, qz6, ne_eq, qz7] at c16z
 refine W.exit ?_
 have hX70z := M.e_inr hM hN15z
 subst hX70z
 replace hM := hk8z
 try dsimp only at hM
 refine sQ rfl <| sM v_l4 rfl <| sA v_l4 rfl <| s_nil ?_
 refine W.ret ?_
 have hr_ := M.e_pure hM
 exact ⟨_, resE_tmp rfl, ⟨l4, s6, s7, v_l4, rw_l4, B_l4, hr_, rfl, H, hr_l4⟩⟩

end Go.Proofs.Ytndobgodeicloaa
end
namespace Go.Nm
structure SOk (c u x : Int) : Prop where
  u0 : 0 ≤ u
  u1 : u ≤ c
  x0 : 0 ≤ x
  x1 : x < 251
theorem SOk.mono {c d u x : Int} (h : SOk c u x) (hd : c ≤ d) : SOk d u x := ⟨h.u0, Int.le_trans h.u1 hd, h.x0, h.x1⟩
/-- What a stream gives: a number below n. -/
structure Nx (c n : Int) (y : Int × Int × Int) : Prop where
  ok : SOk c y.2.1 y.2.2
  lt : 1 ≤ n → 0 ≤ y.1 ∧ y.1 < n
  no : n < 1 → y.1 = 0
end Go.Nm
namespace Go.Proofs.Ytndobgodeicloaa
open Go Go.Nm
theorem next_out {b : List UInt8} {c u x n : Int} (h : SOk c u x) (hc : c ≤ 1000000000000) (hn : n ≤ 1000000) : (m_nilometerkit_Stream_Next b u x n).Out (Nx (c + 1) n) := by
  obtain ⟨u0, u1, x0, x1⟩ := h
  unfold m_nilometerkit_Stream_Next
  refine M.o_if (fun hb => ?_) (fun hb => ?_)
  · simp only [Bool.or_eq_true, decide_eq_true_eq, beq_iff_eq] at hb
    refine M.o_pure ⟨⟨u0, by dsimp only; omega, x0, x1⟩, fun h1 => ⟨Int.le_refl _, ?_⟩, fun _ => rfl⟩
    dsimp only
    omega
  · simp only [Bool.or_eq_false_iff, decide_eq_false_iff_not, beq_eq_false_iff_ne, ne_eq] at hb
    have hl : (0 : Int) < (b.length : Int) := by omega
    have m0 := Int.emod_nonneg u (show (b.length : Int) ≠ 0 by omega)
    have m1 := Int.emod_lt_of_pos u hl
    have d0 := Int.ediv_nonneg u0 (show (0 : Int) ≤ (b.length : Int) by omega)
    have d1 : u / (b.length : Int) ≤ u := Int.ediv_le_self _ u0
    have y1 : ((b.getD (Int.toNat (u % (b.length : Int))) 0).toNat : Int) < 256 := by
      have := UInt8.toNat_lt (b.getD (Int.toNat (u % (b.length : Int))) 0)
      omega
    have y0 : (0 : Int) ≤ ((b.getD (Int.toNat (u % (b.length : Int))) 0).toNat : Int) := Int.natCast_nonneg _
    generalize ((b.getD (Int.toNat (u % (b.length : Int))) 0).toNat : Int) = y at *
    generalize u % (b.length : Int) = m at *
    generalize u / (b.length : Int) = d at *
    have hn0 : 0 < n := by omega
    have fin : ∀ z : Int, 0 ≤ z → 0 ≤ z % n ∧ z % n < n := fun z hz => ⟨Int.emod_nonneg _ (by omega), Int.emod_lt_of_pos _ hn0⟩
    have pr : ∀ z w : Int, 0 ≤ z → Nx (c + 1) n (z % n, u + 1, w % 251) := fun z w hz => ⟨⟨by dsimp only; omega, by dsimp only; omega, by dsimp only; omega, by dsimp only; omega⟩, fun _ => fin z hz, fun h => by omega⟩
    refine M.o_grd (by simp only [Bool.and_eq_true, decide_eq_true_eq]; omega) (M.o_grd (by simp only [Bool.and_eq_true, decide_eq_true_eq]; omega) (M.o_grd (by simp only [Bool.and_eq_true, decide_eq_true_eq]; omega) ?_))
    refine M.o_if (fun h1 => ?_) (fun h1 => ?_)
    · refine M.o_grd (by simp only [Bool.and_eq_true, decide_eq_true_eq]; omega) (M.o_grd (by simp only [Bool.and_eq_true, decide_eq_true_eq]; omega) (M.o_grd (by simp only [Bool.and_eq_true, decide_eq_true_eq]; omega) (M.o_grd (by simp only [Bool.and_eq_true, decide_eq_true_eq]; omega) (M.o_grd (by simp only [Bool.and_eq_true, decide_eq_true_eq]; omega) ?_))))
      refine M.o_grd (by simp only [Bool.and_eq_true, decide_eq_true_eq]; omega) (M.o_grd (by simp only [Bool.and_eq_true, decide_eq_true_eq]; omega) (M.o_grd (by simp only [Bool.and_eq_true, decide_eq_true_eq]; omega) (M.o_grd (by simp only [Bool.and_eq_true, decide_eq_true_eq]; omega) ?_)))
      refine M.o_if (fun h2 => ?_) (fun h2 => ?_)
      · refine M.o_grd (by simp only [Bool.and_eq_true, decide_eq_true_eq]; omega) (M.o_grd (by simp only [Bool.and_eq_true, decide_eq_true_eq]; omega) (M.o_grd (by simp only [Bool.and_eq_true, decide_eq_true_eq]; omega) (M.o_pure (pr _ _ (by omega)))))
      · refine M.o_grd (by simp only [Bool.and_eq_true, decide_eq_true_eq]; omega) (M.o_pure (pr _ _ (by omega)))
    · refine M.o_grd (by simp only [Bool.and_eq_true, decide_eq_true_eq]; omega) (M.o_grd (by simp only [Bool.and_eq_true, decide_eq_true_eq]; omega) (M.o_grd (by simp only [Bool.and_eq_true, decide_eq_true_eq]; omega) (M.o_grd (by simp only [Bool.and_eq_true, decide_eq_true_eq]; omega) (M.o_grd (by simp only [Bool.and_eq_true, decide_eq_true_eq]; omega) ?_))))
      refine M.o_if (fun h2 => ?_) (fun h2 => ?_)
      · refine M.o_grd (by simp only [Bool.and_eq_true, decide_eq_true_eq]; omega) (M.o_grd (by simp only [Bool.and_eq_true, decide_eq_true_eq]; omega) (M.o_grd (by simp only [Bool.and_eq_true, decide_eq_true_eq]; omega) (M.o_pure (pr _ _ (by omega)))))
      · refine M.o_grd (by simp only [Bool.and_eq_true, decide_eq_true_eq]; omega) (M.o_pure (pr _ _ (by omega)))
theorem within_out {b : List UInt8} {c u x lo hi : Int} (h : SOk c u x) (hc : c ≤ 1000000000000) (h0 : -1000 ≤ lo) (h1 : lo ≤ hi) (h2 : hi ≤ 10000) : (m_nilometerkit_Stream_Within b u x lo hi).Out (fun y => SOk (c + 1) y.2.1 y.2.2 ∧ lo ≤ y.1 ∧ y.1 ≤ hi) := by
  unfold m_nilometerkit_Stream_Within
  refine M.o_grd (gA2 (by omega) (by omega)) (M.o_grd (gA2 (by omega) (by omega)) (M.o_bind (next_out h hc (by omega)) ?_))
  rintro ⟨r, u', x'⟩ ⟨k, hl, _⟩
  have := hl (by omega)
  dsimp only at this k ⊢
  exact M.o_grd (gA2 (by omega) (by omega)) (M.o_pure ⟨k, by dsimp only; omega, by dsimp only; omega⟩)
/-! ### Works -/
structure OfOk (i : Nat) (l : List Int) : Prop where
  few : l.length ≤ 5
  ahead : ∀ k ∈ l, 0 ≤ k ∧ k < (i : Int)
  once : l.Nodup
  early : i ≤ 2 → l = []
theorem made_of {b : List UInt8} {c u x : Int} (h : SOk c u x) (hc : c ≤ 1000000000) {i : Nat} (hi : i ≤ 1000) :
    (M.iter (m_nilometerlaw13_Made_b2 b i) (u, x, (i : Int) - 1, [])).Out (fun y => SOk (c + i) y.1 y.2.1 ∧ OfOk i y.2.2.2) := by
  refine M.o_iter (fun (m : Nat) (s : Int × Int × Int × List Int) => m = (s.2.2.1 + 1).toNat ∧ -1 ≤ s.2.2.1 ∧ s.2.2.1 < i ∧ SOk (c + (i : Int) - (s.2.2.1 + 1)) s.1 s.2.1 ∧ s.2.2.2.length ≤ 5 ∧ (∀ k ∈ s.2.2.2, s.2.2.1 < k ∧ k < (i : Int)) ∧ s.2.2.2.Nodup ∧ (i ≤ 2 → s.2.2.2 = [])) ?_ _ (u, x, (i : Int) - 1, []) ⟨rfl, by dsimp only; omega, by dsimp only; omega, h.mono (by dsimp only; omega), by simp, by simp, by simp, fun _ => rfl⟩
  rintro m ⟨u, x, k, l⟩ ⟨rfl, k0, k1, hs, h5, hk, hn, he⟩
  dsimp only at k0 k1 hs h5 hk hn he ⊢
  simp only [m_nilometerlaw13_Made_b2]
  refine M.o_if (fun hb => ?_) (fun hb => ?_)
  · simp only [Bool.and_eq_true, decide_eq_true_eq] at hb
    refine M.o_bind (next_out hs (by omega) (by omega)) ?_
    rintro ⟨r, u', x'⟩ ⟨ok, _, _⟩
    dsimp only at ok ⊢
    refine M.o_if (fun hr => ?_) (fun hr => ?_)
    · refine M.o_grdD (by simp only [List.length_cons, List.length_nil]; omega) (M.o_grd (gA2 (by omega) (by omega)) (M.o_pure ⟨k.toNat, by omega, ?_⟩))
      refine ⟨by dsimp only; omega, by dsimp only; omega, by dsimp only; omega, ok.mono (by dsimp only; omega), ?_, ?_, ?_, ?_⟩
      · simp only [List.length_append, List.length_cons, List.length_nil]; omega
      · intro y hy
        simp only [List.mem_append, List.mem_cons, List.not_mem_nil, or_false] at hy
        rcases hy with hy | hy
        · have := hk y hy; dsimp only; omega
        · subst hy; dsimp only; omega
      · dsimp only
        rw [List.nodup_append]
        refine ⟨hn, by simp, fun a ha b hb e => ?_⟩
        simp only [List.mem_cons, List.not_mem_nil, or_false] at hb
        have := hk a ha
        omega
      · intro h2; omega
    · refine M.o_grd (gA2 (by omega) (by omega)) (M.o_pure ⟨k.toNat, by omega, ?_⟩)
      exact ⟨by dsimp only; omega, by dsimp only; omega, by dsimp only; omega, ok.mono (by dsimp only; omega), h5, fun y hy => by have := hk y hy; dsimp only; omega, hn, he⟩
  · refine M.o_pure ⟨hs.mono (by omega), h5, fun y hy => ?_, hn, he⟩
    have := hk y hy
    omega
/-- What works of numbers are like. -/
structure MadeW (most : Int) (ws : List Work) : Prop where
  built : Built ws
  two : 2 ≤ ws.length
  most : (ws.length : Int) ≤ most
  small : ∀ i, i < ws.length → (ws.getD i default).base < 2000 ∧ (ws.getD i default).minutes < 60
  src : ∀ i, i < ws.length → i ≤ 2 → (ws.getD i default).of = []
theorem made_out {b : List UInt8} {c u x most : Int} (h : SOk c u x) (hc : c ≤ 100000000) (h2 : 2 ≤ most) (h30 : most ≤ 30) : (m_nilometerlaw13_Made b u x most).Out (fun y => MadeW most y.1 ∧ SOk (c + 2000) y.2.1 y.2.2) := by
  unfold m_nilometerlaw13_Made
  refine M.o_bind (within_out h (by omega) (by omega) h2 (by omega)) ?_
  rintro ⟨r, u1, x1⟩ ⟨hs, r0, r1⟩
  dsimp only at hs r0 r1 ⊢
  refine M.o_bind (P := fun y => MadeW most y.2.1 ∧ SOk (c + 2000) y.2.2.1 y.2.2.2) ?_ (fun y hy => M.o_pure hy)
  refine M.o_for r.toNat (fun i s => s.2.2.1 = i ∧ SOk (c + 1 + 40 * i) s.1 s.2.1 ∧ s.2.2.2.length = i ∧ (∀ j, j < i → BuiltAt j (s.2.2.2.getD j default) ∧ (s.2.2.2.getD j default).base < 2000 ∧ (s.2.2.2.getD j default).minutes < 60 ∧ (j ≤ 2 → (s.2.2.2.getD j default).of = []))) ?_ ?_ (s := (u1, x1, 0, [])) ⟨rfl, hs.mono (by omega), rfl, fun j hj => by omega⟩
  · rintro i ⟨u, x, j, l⟩ hi ⟨rfl, ok, hl, hj⟩
    dsimp only at hi ok hl hj ⊢
    simp only [m_nilometerlaw13_Made_b3]
    refine M.o_t (by simp; omega) (M.o_bind (next_out ok (by omega) (by omega)) ?_)
    rintro ⟨r3, u3, x3⟩ ⟨ok3, l3, _⟩
    dsimp only at ok3 l3 ⊢
    have l3 := l3 (by omega)
    refine M.o_bind (next_out ok3 (by omega) (by omega)) ?_
    rintro ⟨r4, u4, x4⟩ ⟨ok4, l4, _⟩
    dsimp only at ok4 l4 ⊢
    have l4 := l4 (by omega)
    refine M.o_grd (gA2 (by omega) (by omega)) (M.o_bind (made_of ok4 (by omega) (i := j) (by omega)) ?_)
    rintro ⟨u5, x5, la, lo⟩ ⟨ok5, hof⟩
    dsimp only at ok5 hof ⊢
    refine M.o_grdD (by simp only [List.length_cons, List.length_nil]; omega) (M.o_grd (gA2 (by omega) (by omega)) (M.o_pure ?_))
    refine ⟨rfl, ok5.mono (by omega), by simp [hl], fun k hk => ?_⟩
    dsimp only
    by_cases e : k < l.length
    · rw [getD_app_left _ _ e]
      exact hj k (by omega)
    · obtain rfl : k = l.length := by omega
      rw [getD_app_mid]
      refine ⟨⟨hof.few, ⟨l3.1, by dsimp only; omega⟩, ⟨l4.1, by dsimp only; omega⟩, ?_, hof.once⟩, l3.2, l4.2, ?_⟩
      · rw [hl]; exact hof.ahead
      · rw [hl]; exact hof.early
  · rintro ⟨u, x, j, l⟩ ⟨rfl, ok, hl, hj⟩
    dsimp only at ok hl hj ⊢
    simp only [m_nilometerlaw13_Made_b3]
    refine M.o_f (by simp; omega) (M.o_pure ⟨⟨⟨by dsimp only; omega, fun i hi => (hj i (Nat.lt_of_lt_of_eq hi hl)).1⟩, by dsimp only; omega, by dsimp only; omega, fun i hi => ⟨(hj i (Nat.lt_of_lt_of_eq hi hl)).2.1, (hj i (Nat.lt_of_lt_of_eq hi hl)).2.2.1⟩, fun i hi => (hj i (Nat.lt_of_lt_of_eq hi hl)).2.2.2⟩, ok.mono (by omega)⟩)
end Go.Proofs.Ytndobgodeicloaa
namespace Go.Nm
end Go.Nm
namespace Go.Nm
end Go.Nm
namespace Go.Nm
variable {ws : List Work} {l e : List Note}
/-! ### Notes -/
def Uniq (l : List Note) : Prop := ∀ a ∈ l, ∀ b ∈ l, a.work = b.work → a.version = b.version → a = b
theorem Uniq.add {l l' : List Note} {n : Note} (h : Uniq l) (hm : ∀ a ∈ l', a ∈ l ∨ a = n) (hn : ∀ a ∈ l, ¬ (a.work = n.work ∧ a.version = n.version)) : Uniq l' := by
  intro a ha b hb h1 h2
  rcases hm a ha with ha | rfl <;> rcases hm b hb with hb | rfl
  · exact h a ha b hb h1 h2
  · exact absurd ⟨h1, h2⟩ (hn a ha)
  · exact absurd ⟨h1.symm, h2.symm⟩ (hn b hb)
  · rfl
structure NG (ws : List Work) (l : List Note) : Prop where
  few : l.length ≤ 200
  src : ∀ n ∈ l, 0 ≤ n.work ∧ n.work < (ws.length : Int) ∧ (ws.getD n.work.toNat default).of = []
  rng : ∀ n ∈ l, 0 ≤ n.version ∧ n.version ≤ 1000000 ∧ 0 ≤ n.value ∧ n.value ≤ 1000002
  uniq : Uniq l
/-! ### Values -/
/-! ### Lists in order -/
theorem asc_of {l : List Int} (h : l.Pairwise (· < ·)) : AscTo l l.length := by
  intro j h1 h2
  rw [getD_el l (by omega) 0, getD_el l h2 0]
  exact List.pairwise_iff_getElem.1 h (j - 1) j (by omega) h2 (by omega)
theorem listed_of {n : Nat} {l : List Int} (h : ∀ x ∈ l, 0 ≤ x ∧ x < (n : Int)) (ha : l.Pairwise (· < ·)) : listedE n l = 0 := by
  unfold listedE
  rw [if_neg, if_pos (asc_of ha)]
  rw [Bool.not_eq_true, Bool.not_eq_false', List.all_eq_true]
  intro x hx
  have := h x hx
  unfold inB
  simp only [Bool.and_eq_true, decide_eq_true_eq]
  omega
/-! ### Publications -/
end Go.Nm
namespace Go.Nm
structure NtOk (ws : List Work) (s : Nat) (l6 l7 : List Note) : Prop where
  src : ∀ n ∈ l6 ++ l7, 0 ≤ n.work ∧ n.work < (s : Int) ∧ (ws.getD n.work.toNat default).of = []
  rng : ∀ n ∈ l6 ++ l7, 0 ≤ n.version ∧ n.version ≤ 8 ∧ 0 ≤ n.value ∧ n.value < 2000
  uniq : Uniq (l6 ++ l7)
  all : ∀ i, i < s → (ws.getD i default).of = [] → ∃ n ∈ l6, n.work = (i : Int)
  len6 : l6.length ≤ s
  len7 : l7.length ≤ 8 * s
theorem NtOk.next {ws : List Work} {s : Nat} {l6 l7 : List Note} (h : NtOk ws s l6 l7) (hs : (ws.getD s default).of ≠ []) : NtOk ws (s + 1) l6 l7 :=
  ⟨fun n hn => by have := h.src n hn; exact ⟨this.1, by omega, this.2.2⟩, h.rng, h.uniq, fun i hi he => by
    by_cases e : i = s
    · subst e; exact absurd he hs
    · exact h.all i (by omega) he, by have := h.len6; omega, by have := h.len7; omega⟩
/-- Old notes of one source, up to a version. -/
structure OldOk (ws : List Work) (s v : Nat) (n0 : Note) (l6 l7 l : List Note) : Prop where
  src : ∀ b ∈ l, b ∈ l7 ∨ (b.work = (s : Int) ∧ 0 ≤ b.version ∧ b.version < (v : Int) ∧ 0 ≤ b.value ∧ b.value < 2000)
  uniq : Uniq ((l6 ++ [n0]) ++ l)
  len : l.length ≤ l7.length + v
theorem NtOk.start {ws : List Work} {s : Nat} {l6 l7 : List Note} (h : NtOk ws s l6 l7) {n0 : Note} (hw : n0.work = (s : Int)) : OldOk ws s 0 n0 l6 l7 l7 := by
  refine ⟨fun b hb => .inl hb, ?_, Nat.le_refl _⟩
  refine h.uniq.add (n := n0) (fun a ha => ?_) (fun a ha hh => ?_)
  · simp only [List.mem_append, List.mem_cons, List.not_mem_nil, or_false] at ha ⊢
    rcases ha with (ha | ha) | ha
    · exact .inl (.inl ha)
    · exact .inr ha
    · exact .inl (.inr ha)
  · have := h.src a ha
    rw [hw] at hh
    omega
theorem OldOk.skip {ws : List Work} {s v : Nat} {n0 : Note} {l6 l7 l : List Note} (h : OldOk ws s v n0 l6 l7 l) : OldOk ws s (v + 1) n0 l6 l7 l :=
  ⟨fun b hb => (h.src b hb).imp id fun x => ⟨x.1, x.2.1, by omega, x.2.2.2⟩, h.uniq, by have := h.len; omega⟩
theorem OldOk.put {ws : List Work} {s v : Nat} {n0 : Note} {l6 l7 l : List Note} (hN : NtOk ws s l6 l7) (h : OldOk ws s v n0 l6 l7 l) (hv : (v : Int) < n0.version) {z : Int} (z0 : 0 ≤ z) (z1 : z < 2000) :
    OldOk ws s (v + 1) n0 l6 l7 (l ++ [⟨(s : Int), (v : Int), z⟩]) := by
  refine ⟨fun b hb => ?_, ?_, by have := h.len; simp only [List.length_append, List.length_cons, List.length_nil]; omega⟩
  · rcases List.mem_append.1 hb with hb | hb
    · exact h.skip.src b hb
    · rw [List.mem_singleton] at hb
      subst hb
      exact .inr ⟨rfl, by dsimp only; omega, by dsimp only; omega, z0, z1⟩
  · refine h.uniq.add (n := ⟨(s : Int), (v : Int), z⟩) (fun a ha => ?_) (fun a ha hh => ?_)
    · rw [← List.append_assoc, List.mem_append, List.mem_singleton] at ha
      exact ha
    · dsimp only at hh
      simp only [List.mem_append, List.mem_cons, List.not_mem_nil, or_false] at ha
      rcases ha with (ha | ha) | ha
      · have := hN.src a (List.mem_append_left _ ha); omega
      · subst ha; omega
      · rcases h.src a ha with ha | ha
        · have := hN.src a (List.mem_append_right _ ha); omega
        · omega
theorem OldOk.done {ws : List Work} {s v : Nat} {n0 : Note} {l6 l7 l : List Note} (hN : NtOk ws s l6 l7) (h : OldOk ws s v n0 l6 l7 l) (hw : n0.work = (s : Int)) (hs : (ws.getD s default).of = [])
    (hv : 0 ≤ n0.version ∧ n0.version ≤ 8 ∧ 0 ≤ n0.value ∧ n0.value < 2000) (hv8 : (v : Int) ≤ 8) : NtOk ws (s + 1) (l6 ++ [n0]) l := by
  have hm : ∀ n ∈ (l6 ++ [n0]) ++ l, n ∈ l6 ++ l7 ∨ n = n0 ∨ (n.work = (s : Int) ∧ 0 ≤ n.version ∧ n.version < (v : Int) ∧ 0 ≤ n.value ∧ n.value < 2000) := by
    intro n hn
    simp only [List.mem_append, List.mem_cons, List.not_mem_nil, or_false] at hn ⊢
    rcases hn with (hn | hn) | hn
    · exact .inl (.inl hn)
    · exact .inr (.inl hn)
    · rcases h.src n hn with h1 | h1
      · exact .inl (.inr h1)
      · exact .inr (.inr h1)
  refine ⟨fun n hn => ?_, fun n hn => ?_, h.uniq, fun i hi he => ?_, ?_, ?_⟩
  · rcases hm n hn with h1 | h1 | h1
    · have := hN.src n h1; exact ⟨this.1, by omega, this.2.2⟩
    · subst h1; rw [hw]; exact ⟨by omega, by omega, by rw [Int.toNat_natCast]; exact hs⟩
    · rw [h1.1]; exact ⟨by omega, by omega, by rw [Int.toNat_natCast]; exact hs⟩
  · rcases hm n hn with h1 | h1 | h1
    · exact hN.rng n h1
    · subst h1; exact hv
    · omega
  · by_cases e : i = s
    · exact ⟨n0, by simp, by rw [hw, e]⟩
    · obtain ⟨n, h1, h2⟩ := hN.all i (by omega) he
      exact ⟨n, List.mem_append_left _ h1, h2⟩
  · have := hN.len6; simp only [List.length_append, List.length_cons, List.length_nil]; omega
  · have := hN.len7; have := h.len; omega
end Go.Nm
namespace Go.Proofs.Ytndobgodeicloaa
open Go Go.Nm
variable {ws : List Work}
end Go.Proofs.Ytndobgodeicloaa
namespace Go.Proofs.Ytndobgodeicloaa
open Go Go.Nm
variable {ws : List Work} {rev f : List Int}
/-! ### Fences -/
theorem containsFunc_ends {s : List Int} {f : Int → M Bool} {p : Int → Bool} (hf : ∀ x ∈ s, (f x).Ends (p x)) : (m_slices_ContainsFunc_int s f).Ends (s.any p) := by
  have key : ∃ r, (m_slices_IndexFunc_int s f).Ends r ∧ decide (0 ≤ r) = s.any p := by
    have h := M.i_loopQ (body := m_slices_IndexFunc_int_b0 s f) (fun r => match r with | .inl k => 0 ≤ k ∧ s.any p = true | .inr _ => s.any p = false)
      (fun m i => m = s.length - i ∧ i ≤ s.length ∧ (s.take i).any p = false) (by
        rintro m i ⟨rfl, hi, ha⟩
        simp only [m_slices_IndexFunc_int_b0]
        by_cases e : i < s.length
        · have hp := hf _ (getD_memN s (by omega : (i : Int) < _) 0)
          cases hc : p (s.getD i 0) with
          | true =>
            rw [hc] at hp
            exact .inr ⟨.inl (i : Int), M.i_t (by simpa using e) (M.grdD (by omega) (M.i_bind hp M.i_pure)), by omega, List.any_eq_true.2 ⟨_, getD_memN s (by omega : (i : Int) < _) 0, hc⟩⟩
          | false =>
            rw [hc] at hp
            exact .inl ⟨i + 1, s.length - (i + 1), by omega, M.i_t (by simpa using e) (M.grdD (by omega) (M.i_bind hp M.i_pure)), rfl, e, by rw [any_take_succ p s e 0, ha, hc]; rfl⟩
        · obtain rfl : i = s.length := by omega
          rw [List.take_length] at ha
          exact .inr ⟨.inr (), M.i_f (by simp) M.i_pure, ha⟩) _ 0 ⟨rfl, Nat.zero_le _, by simp⟩
    obtain ⟨r, h1, h2⟩ := h
    cases r with
    | inl k => exact ⟨k, M.i_bind h1 M.i_pure, by rw [h2.2]; simpa using h2.1⟩
    | inr u => exact ⟨-1, M.i_bind h1 M.i_pure, by dsimp only at h2; rw [h2]; rfl⟩
  obtain ⟨r, h1, h2⟩ := key
  rw [← h2]
  exact M.i_bind h1 M.i_pure
theorem every_ends {s : List Int} {f : Int → M Bool} {p : Int → Bool} (hf : ∀ x ∈ s, (f x).Ends (p x)) : (m_notes_every_int f s).Ends (s.all p) := by
  have h := containsFunc_ends (s := s) (f := fun x => m_notes_every_int__1 x f) (p := fun x => !(p x)) (fun x hx => M.i_bind (hf x hx) M.i_pure)
  have e : s.all p = !(s.any fun x => !(p x)) := by rw [List.all_eq_not_any_not]
  rw [e]
  exact M.i_bind h M.i_pure
end Go.Proofs.Ytndobgodeicloaa
section
set_option maxRecDepth 100000
set_option maxHeartbeats 16000000
namespace Go.Proofs.Ytndobgodeicloaa
open Go Go.Nm
def m_nilometerkit_Copy_notes_Work (l : List Work) : M (List Work) :=
  M.grd (decide ((([] : List Work).length + l.length) * 40 ≤ 140737488355328)) <|
  M.pure l
theorem nilometerkit_Copy_notes_Work_ok {R : List Chunk} {C_l : Cells} {v_l : Value} (l : List Work) (hC_l : Reads R C_l) (hs_l : Sl C_l v_l l) {r : (List Work)} (hM : (m_nilometerkit_Copy_notes_Work l).Ends r) (w : World) (H : St w w [] R) : Ret Try.prog 80 #[v_l] w fun v w' => ∃ (y0 : List Work) (u0 : Value) (rr1 : List (Raw 2)) (Bs2 : Base), y0 = r ∧ v = u0 ∧ St w w' [cOwn (α := Raw 2) 60 u0 rr1, cRo Bs2] R ∧ RepR (α := Work) (Cells.sup C_l Bs2.cells) rr1 y0 := by
 refine ret_of_W Try.func80 rfl rfl rfl ?_
 refine sQ rfl <| sA (.slice none 0 0) rfl <| s_nil <| sQ rfl <| sA (.slice none 0 0) rfl <| s_nil <| sQ rfl <| sM (.slice none 0 0) rfl <| sM v_l rfl ?_
 obtain ⟨Bs_1, H⟩ := H.emptyE
 replace H : St w w [cOwn (α := Raw 2) 60 (.slice none 0 0) ([]), cRo Bs_1] R := H.nilOwn (α := Raw 2) 60
 have hr1z : RepR (α := Work) (n := 2) Bs_1.cells [] [] := .nil
 obtain ⟨sd2z, hM⟩ := M.e_gd hM
 obtain ⟨rw4z, hs5z, hr3z⟩ := rawOf (n := 2) rfl hs_l
 replace hr1z := hr1z.mono (Cells.sup_r (hC_l.at H) (roLe _ (H.get (k := 1) rfl)))
 replace hr3z := hr3z.mono (Cells.sup_l _ Bs_1.cells)
 have hr8z := hr1z.app hr3z
 simp only [List.nil_append] at hr8z
 refine t_app (α := Raw 2) (k := 0) (l := []) (l2 := rw4z) (l' := rw4z) (vy := v_l) T22 rfl H rfl rfl rfl hs5z (hC_l.at H) (List.nil_append _) (by have a_ := hr1z.len; have b_ := hr3z.len; simp only [List.length_nil] at *; first | omega | (rw [a_, b_]; omega)) ?_
 intro v6z w7z H
 replace H : St w w7z [cOwn (α := Raw 2) 60 v6z rw4z, cRo Bs_1] R := H
 refine sA v6z rfl <| s_nil ?_
 refine W.ret ?_
 have hr_ := M.e_pure hM
 exact ⟨_, resE_tmp rfl, ⟨l, v6z, rw4z, Bs_1, hr_, rfl, H, hr8z⟩⟩

def m_nilometerlaw13_CopyWorks_b0 (w_ : List Work) (r2 : List Work) : ((List Work) × Nat) → M (((List Work) × Nat) ⊕ ((List Work) × (List Work))) := fun (l, s) =>
  bif decide ((s : Int) < (r2.length : Int)) then (
  M.grd (decide ((s : Int) < (w_.length : Int))) <|
  M.grd (decide (((w_.getD s default).of).length ≤ 1000000)) <|
  M.grd (decide ((s : Int) < (l.length : Int))) <|
  M.pure (.inl (l.set s ({ (l.getD s default) with of := ((w_.getD s default).of) }), s + 1)))
  else (
  M.pure (.inr (l, l)))
def m_nilometerlaw13_CopyWorks (w_ : List Work) : M (List Work) :=
  M.bind (m_nilometerkit_Copy_notes_Work w_) fun r2 =>
  M.bind (M.iter (m_nilometerlaw13_CopyWorks_b0 w_ r2) (r2, 0)) fun (l2, l3) =>
  M.pure l3
end Go.Proofs.Ytndobgodeicloaa
end
section
set_option maxRecDepth 100000
set_option maxHeartbeats 16000000
namespace Go.Proofs.Ytndobgodeicloaa
open Go Go.Nm
end Go.Proofs.Ytndobgodeicloaa
end
section
set_option maxRecDepth 100000
set_option maxHeartbeats 16000000
namespace Go.Proofs.Ytndobgodeicloaa
open Go Go.Nm
end Go.Proofs.Ytndobgodeicloaa
end
section
set_option maxRecDepth 100000
set_option maxHeartbeats 16000000
namespace Go.Proofs.Ytndobgodeicloaa
open Go Go.Nm
end Go.Proofs.Ytndobgodeicloaa
end
namespace Go.Nm
open Go
section
variable {P : Program} {w : World} {σ : Env} {d : Nat} {ty : TypeId} {pos : String} {af : Array Edge} {g : Option (Nat × Bool)}
theorem sl_none {α : Type} [Elt α] {C : Cells} {v : Value} {l : List α} (h : Sl C v l) (hn : l = [] → v = .slice none 0 0) : ∃ a n c, v = .slice a n c ∧ a.isNone = l.isEmpty := by
  cases l with
  | nil => exact ⟨none, 0, 0, hn rfl, rfl⟩
  | cons x l =>
    obtain ⟨a, c, hv, _, _, hh⟩ := h.ex
    obtain ⟨b, o, cs, rfl, _⟩ := hh 0 x rfl
    exact ⟨_, _, _, hv, rfl⟩
theorem x_eqnil {α : Type} [Elt α] {t e yt : TypeId} {x y : Operand} {C : Cells} {v : Value} {l : List α} (ht : P.underlying t = some (.slice e)) (hx : ev σ x = v) (hy : ev σ y = .slice none 0 0) (h : Sl C v l) (hn : l = [] → v = .slice none 0 0) :
    (execOp (ev σ) ⟨some d, .binOp .eql t x y yt, ty, pos, af, g⟩).run P w = .ok (.value (.bool l.isEmpty)) w := by
  obtain ⟨a, n, c, rfl, ha⟩ := sl_none h hn
  simp [execOp, hx, hy, eqGuard, binOp, run_equal_slice_nil w t e a n c ht, ha]
theorem x_nenil {α : Type} [Elt α] {t e yt : TypeId} {x y : Operand} {C : Cells} {v : Value} {l : List α} (ht : P.underlying t = some (.slice e)) (hx : ev σ x = v) (hy : ev σ y = .slice none 0 0) (h : Sl C v l) (hn : l = [] → v = .slice none 0 0) :
    (execOp (ev σ) ⟨some d, .binOp .neq t x y yt, ty, pos, af, g⟩).run P w = .ok (.value (.bool (!l.isEmpty))) w := by
  obtain ⟨a, n, c, rfl, ha⟩ := sl_none h hn
  simp [execOp, hx, hy, eqGuard, binOp, run_equal_slice_nil w t e a n c ht, ha]
end
end Go.Nm
namespace Go.Nm
open Go
structure Span where
  lo : Int
  hi : Int
deriving DecidableEq, Inhabited
instance : Flat Span where
  rep _ cs x := cs = [I x.lo, I x.hi]
  sz := 2
  agg := true
  sz_pos := by decide
  len := fun h => by subst h; rfl
  mono := fun _ h => h
  one := fun h v hv => by subst h; simp at hv; rcases hv with rfl | rfl <;> rfl
  enc x := [I x.lo, I x.hi]
  rep_iff := Iff.rfl
structure Visit where
  wlo : Int
  whi : Int
  klo : Int
  khi : Int
  opn : Int
  cls : Int
deriving DecidableEq, Inhabited
instance : Flat Visit where
  rep _ cs x := cs = [I x.wlo, I x.whi, I x.klo, I x.khi, I x.opn, I x.cls]
  sz := 6
  agg := true
  sz_pos := by decide
  len := fun h => by subst h; rfl
  mono := fun _ h => h
  one := fun h v hv => by subst h; simp at hv; rcases hv with rfl | rfl | rfl | rfl | rfl | rfl <;> rfl
  enc x := [I x.wlo, I x.whi, I x.klo, I x.khi, I x.opn, I x.cls]
  rep_iff := Iff.rfl
section
variable {P : Program} {w : World}
end
end Go.Nm
section
set_option maxRecDepth 100000
set_option maxHeartbeats 16000000
namespace Go.Proofs.Ytndobgodeicloaa
open Go Go.Nm
def m_notes_Order (w_ : List Work) : M ((List Int) × Int) :=
  bif (openedE w_ == 0) then (
  bif (0 : Int) != 0 then (M.fail) else (M.pure ((orderP w_), 0)))
  else (
  bif (openedE w_) != 0 then (
  M.pure (([]), (openedE w_)))
  else (
  M.pure (([]), 0)))
theorem notes_Order_ok {R : List Chunk} {C_w_ : Cells} {v_w_ : Value} (w_ : List Work) (hC_w_ : Reads R C_w_) (hs_w_ : Sl C_w_ v_w_ w_) {r : ((List Int) × Int)} (hM : (m_notes_Order w_).Ends r) (w : World) (H : St w w [] R) : Ret Try.prog 54 #[v_w_] w fun v w' => ∃ (y0 : List Int) (y1 : Int) (u0 : Value) (Bs1 : Base), (y0, y1) = r ∧ v = .tuple #[u0, I y1] ∧ St w w' [cRo Bs1] R ∧ Sl Bs1.cells u0 y0 := by
 refine ret_of_W Try.func54 rfl rfl rfl ?_
 refine sQ rfl <| sA (.slice none 0 0) rfl <| sA (I 0) rfl <| s_nil <| sQ rfl <| sM v_w_ rfl ?_
 refine s_call cf81 [v_w_] rfl (opened_any _ (hs_w_.mono (hC_w_.at H))) ?_
 rintro _ w1z (⟨he_, rfl, hx_⟩ | ⟨he_, b_1, u2z, rfl, hn_, hs3z⟩)
 ·replace hM := M.e_f hM (by simpa using he_)
  replace H : St w w1z [] R := H.ext hx_
  clear hx_
  refine sM (.tuple #[.pointer none, .slice none 0 0, I (openedE w_)]) rfl <| sX [.pointer none, .slice none 0 0, I (openedE w_)] (.pointer none) rfl rfl <| sX [.pointer none, .slice none 0 0, I (openedE w_)] (.slice none 0 0) rfl rfl <| sX [.pointer none, .slice none 0 0, I (openedE w_)] (I (openedE w_)) rfl rfl <| sA (.pointer none) rfl <| sA (.slice none 0 0) rfl <| sA (I (openedE w_)) rfl <| s_nil <| W.seq <| sQ rfl <| sM (I (openedE w_)) rfl ?_
  refine sC (openedE w_) 0 ((openedE w_) != 0) rfl rfl rfl <| s_nil ?_
  refine W.cond ((openedE w_) != 0) rfl (fun c4z => ?_) (fun c4z => ?_)
  ·replace hM := M.e_t hM c4z
   simp only [qz1, qz2, qz3, qz4, qz5, qz6, ne_eq, qz7] at c4z
   refine sQ rfl <| sM (I (openedE w_)) rfl <| sA (.slice none 0 0) rfl <| sA (I (openedE w_)) rfl <| s_nil ?_
   refine W.ret ?_
   have hr_ := M.e_pure hM
   obtain ⟨Bs_3, H⟩ := H.emptyE
   exact ⟨_, resE_tmp2 rfl, ⟨([]), (openedE w_), .slice none 0 0, Bs_3, hr_, rfl, H, (Sl.nil _)⟩⟩
  replace hM := M.e_f hM c4z
  simp only [qz1, qz2, qz3, qz4, qz5, qz6, ne_eq, qz7] at c4z
  refine W.skip <| sQ rfl <| sM (.slice none 0 0) rfl <| sA (.slice none 0 0) rfl <| sA (I 0) rfl <| s_nil ?_
  refine W.ret ?_
  have hr_ := M.e_pure hM
  obtain ⟨Bs_3, H⟩ := H.emptyE
  exact ⟨_, resE_tmp2 rfl, ⟨([]), 0, .slice none 0 0, Bs_3, hr_, rfl, H, (Sl.nil _)⟩⟩
 replace hM := M.e_t hM (by simpa using he_)
 obtain ⟨Bs_2, H2_, hs3z, hb_b_1⟩ := H.freshNB hn_ hs3z
 replace H : St w w1z [cRo Bs_2] R := H2_
 clear H2_ hn_
 have hl_hs3z := hs3z.len_le
 refine sM (.tuple #[Pz b_1, u2z, I 0]) rfl <| sX [Pz b_1, u2z, I 0] (Pz b_1) rfl rfl <| sX [Pz b_1, u2z, I 0] u2z rfl rfl <| sX [Pz b_1, u2z, I 0] (I 0) rfl rfl <| sA (Pz b_1) rfl <| sA u2z rfl <| sA (I 0) rfl <| s_nil <| W.seq <| sQ rfl <| sM (I 0) rfl ?_
 refine sC 0 0 ((0 : Int) != 0) rfl rfl rfl <| s_nil ?_
 refine W.cond ((0 : Int) != 0) rfl (fun c5z => ?_) (fun c5z => ?_)
 ·skip
  exact absurd c5z (by decide)
 skip
 replace hM := M.e_f hM c5z
 refine W.skip <| sQ rfl <| sM u2z rfl <| sA u2z rfl <| sA (I 0) rfl <| s_nil ?_
 refine W.ret ?_
 have hr_ := M.e_pure hM
 exact ⟨_, resE_tmp2 rfl, ⟨(orderP w_), 0, u2z, Bs_2, hr_, rfl, H, hs3z⟩⟩

end Go.Proofs.Ytndobgodeicloaa
end
section
set_option maxRecDepth 100000
set_option maxHeartbeats 16000000
namespace Go.Proofs.Ytndobgodeicloaa
open Go Go.Nm
def m_notes_web_search (w__list_works : List Work) (enters : Int → M Bool) : M (Int → Option Bool) :=
  M.pure (fun _ => none)
theorem notes_web_search_ok {R : List Chunk} {b_w_ : Nat} {C_w__list_works : Cells} {v_w__list_works : Value} {v_enters : Value} (w__list_works : List Work) (enters : Int → M Bool) (hC_w__list_works : Reads R C_w__list_works) (hs_w__list_works : Sl C_w__list_works v_w__list_works w__list_works) (h_b_w_ : Has R (cBlk b_w_ [v_w__list_works] 187)) (hf_enters : FnM Try.prog R v_enters enters) {r : (Int → Option Bool)} (hM : (m_notes_web_search w__list_works enters).Ends r) (w : World) (H : St w w [] R) : Ret Try.prog 108 #[Pz b_w_, v_enters] w fun v w' => ∃ (y0 : Int → Option Bool) (nb0 : Nat) (nb1 : Nat), y0 = r ∧ v = Pz nb0 ∧ St w w' [cBlk nb0 [Pz b_w_, v_enters, .map (some nb1)] 211, cMap I B nb1 y0] R := by
 refine ret_of_W Try.func108 rfl rfl rfl ?_
 refine sQ rfl <| sA (.pointer none) rfl <| s_nil <| sQ rfl <| sM (Pz b_w_) rfl <| sM v_enters rfl ?_
 refine t_mkmap (κ := Int) (ν := Bool) I B H ?_
 intro b_1 w1z H
 refine s_val (x_bld (ps := [(0, Pz b_w_), (1, v_enters), (2, .map (some b_1))]) (zs := [.pointer none, .nilFunc, .map none]) (L' := [Pz b_w_, v_enters, .map (some b_1)]) rfl Try.underlying211 Al211 rfl (Bd211 Try.underlying211) (.cons (cs := [Pz b_w_]) rfl rfl rfl rfl rfl <| .cons (cs := [v_enters]) (FnM.cells hf_enters) rfl rfl rfl rfl <| .cons (cs := [.map (some b_1)]) rfl rfl rfl rfl rfl <| .nil)) ?_
 refine t_box (v := .agg #[Pz b_w_, v_enters, .map (some b_1)]) (cs := [Pz b_w_, v_enters, .map (some b_1)]) H rfl rfl ?_
 intro b_2 w2z H
 refine sA (Pz b_2) rfl <| s_nil ?_
 refine W.ret ?_
 have hr_ := M.e_pure hM
 exact ⟨_, resE_tmp rfl, ⟨(fun _ => none), b_2, b_1, hr_, rfl, H⟩⟩

def m_notes_Line_1 (x : Int) : M Bool :=
  M.pure true
theorem notes_Line_1_ok {R : List Chunk}  (x : Int)  {r : Bool} (hM : (m_notes_Line_1 x).Ends r) (w : World) (H : St w w [] R) : Ret Try.prog 109 #[I x] w fun v w' => ∃ (y0 : Bool), y0 = r ∧ v = B y0 ∧ St w w' [] R := by
 refine ret_of_W Try.func109 rfl rfl rfl ?_
 refine sQ rfl <| sA (B false) rfl <| s_nil <| sQ rfl <| sA (B true) rfl <| s_nil ?_
 refine W.ret ?_
 have hr_ := M.e_pure hM
 exact ⟨_, resE_tmp rfl, ⟨true, hr_, rfl, H⟩⟩

def m_notes_search_on_b0 (s_web_list_works : List Work) (s_enters : Int → M Bool) (from_ : Int) (to_ : Int) (self_ : ((List Work) × (Int → M Bool) × (Int → Option Bool) × Int × Int) → M ((List Int) × (Int → Option Bool))) : (Int → Option Bool) → Int → M ((Int → Option Bool) ⊕ ((List Int) × (Int → Option Bool))) := fun mp x =>
  bif ((!((mp (x : Int)).getD false)) && (x != to_)) then (
  M.bind (s_enters x) fun r8 =>
  bif (((mp (x : Int)).getD false) || ((x != to_) && (!r8))) then (
  M.pure (.inl mp))
  else (
  M.bind (self_ (s_web_list_works, s_enters, mp, x, to_)) fun (r4, q_b_s_met) =>
  bif !r4.isEmpty then (
  M.grd (decide ((([(from_ : Int)]).length + r4.length) * 8 ≤ 140737488355328)) <|
  M.pure (.inr (([(from_ : Int)]) ++ r4, q_b_s_met)))
  else (
  M.pure (.inl q_b_s_met))))
  else (
  bif (((mp (x : Int)).getD false) || ((x != to_) && (!false))) then (
  M.pure (.inl mp))
  else (
  M.bind (self_ (s_web_list_works, s_enters, mp, x, to_)) fun (r4, q_b_s_met) =>
  bif !r4.isEmpty then (
  M.grd (decide ((([(from_ : Int)]).length + r4.length) * 8 ≤ 140737488355328)) <|
  M.pure (.inr (([(from_ : Int)]) ++ r4, q_b_s_met)))
  else (
  M.pure (.inl q_b_s_met))))
def m_notes_search_on_F (self_ : ((List Work) × (Int → M Bool) × (Int → Option Bool) × Int × Int) → M ((List Int) × (Int → Option Bool))) : ((List Work) × (Int → M Bool) × (Int → Option Bool) × Int × Int) → M ((List Int) × (Int → Option Bool)) := fun (s_web_list_works, s_enters, s_met, from_, to_) =>
  bif from_ == to_ then (
  M.pure (([(to_ : Int)]), s_met))
  else (
  M.bind (m_notes_web_made s_web_list_works from_) fun r10 =>
  M.bind (m_notes_web_made_1 (M.yl (m_notes_search_on_b0 s_web_list_works s_enters from_ to_ self_)) (.inl (updF s_met (from_ : Int) true)) s_web_list_works r10) fun x_ => match x_ with
  | .inl mp => (
  M.pure (([]), mp))
  | .inr (l, mp2) => (
  M.grd (decide (0 < l.length)) <|
  M.pure (l, mp2)))
theorem m_notes_search_on_mon : M.Mon m_notes_search_on_F := by
  intro n f g h a
  obtain ⟨s_web_list_works, s_enters, s_met, from_, to_⟩ := a
  simp only [m_notes_search_on_F, m_notes_search_on_b0]
  repeat' (first | exact M.le_same _ _ | exact h _ | refine M.le_grd ?_ | refine M.le_if ?_ ?_ | refine M.le_bind ?_ (fun x => ?_) | refine M.le_opt ?_ | refine M.le_iter (fun x => ?_) _ | refine m_notes_web_made_1_le (M.le_yl (fun s_ a_ => ?_)) _ _ _ | (rename_i x; cases x) | (rename_i x; obtain ⟨_, _⟩ := x))
def m_notes_search_on (s_web_list_works : List Work) (s_enters : Int → M Bool) (s_met : Int → Option Bool) (from_ : Int) (to_ : Int) : M ((List Int) × (Int → Option Bool)) := M.fix m_notes_search_on_F m_notes_search_on_mon (s_web_list_works, s_enters, s_met, from_, to_)
theorem notes_search_on_okN (n_ : Nat) : ∀ {R : List Chunk} {b_s : Nat} {b_s_web : Nat} {C_s_web_list_works : Cells} {v_s_web_list_works : Value} {v_s_enters : Value} {b_s_met : Nat} (s_web_list_works : List Work) (s_enters : Int → M Bool) (s_met : Int → Option Bool) (from_ : Int) (to_ : Int) (hC_s_web_list_works : Reads R C_s_web_list_works) (hs_s_web_list_works : Sl C_s_web_list_works v_s_web_list_works s_web_list_works) (h_b_s_web : Has R (cBlk b_s_web [v_s_web_list_works] 187)) (hf_s_enters : FnM Try.prog R v_s_enters s_enters) (h_b_s : Has R (cBlk b_s [Pz b_s_web, v_s_enters, .map (some b_s_met)] 211)) {r : ((List Int) × (Int → Option Bool))} (hM : (M.fixN m_notes_search_on_F n_ (s_web_list_works, s_enters, s_met, from_, to_)).Ends r) (w : World) (H : St w w [cMap I B b_s_met s_met] R), Ret Try.prog 150 #[Pz b_s, I from_, I to_] w fun v w' => ∃ (y0 : List Int) (y1 : Int → Option Bool) (u0 : Value), (y0, y1) = r ∧ v = u0 ∧ St w w' [cOwn (α := Int) 3 u0 y0, cMap I B b_s_met y1] R ∧ (y0 = [] → u0 = .slice none 0 0) := by
  induction n_ with
  | zero => intro R b_s b_s_web C_s_web_list_works v_s_web_list_works v_s_enters b_s_met s_web_list_works s_enters s_met from_ to_ hC_s_web_list_works hs_s_web_list_works h_b_s_web hf_s_enters h_b_s r hM w H; exact (M.e_fail hM).elim
  | succ n_ ih =>
    intro R b_s b_s_web C_s_web_list_works v_s_web_list_works v_s_enters b_s_met s_web_list_works s_enters s_met from_ to_ hC_s_web_list_works hs_s_web_list_works h_b_s_web hf_s_enters h_b_s r hM w H
    refine ret_of_WD Try.func150 rfl rfl rfl ?_
    replace H : St w w [cMk ([]), cMap I B b_s_met s_met] R := H.mk0
    have hl_s_web_list_works := hs_s_web_list_works.len_le
    simp only [M.fixN, m_notes_search_on_F] at hM
    refine WD.seq ?_
    refine WD.of ?_
    refine W.region rfl ?_
    refine t_box (v := Pz b_s) (cs := [Pz b_s]) H rfl rfl ?_
    intro b_1 w1z H
    refine t_box (v := I from_) (cs := [I from_]) H rfl rfl ?_
    intro b_2 w2z H
    refine t_box (v := I to_) (cs := [I to_]) H rfl rfl ?_
    intro b_3 w3z H
    refine t_alloc (cs := [.slice none 0 0]) H Al34 rfl ?_
    intro b_4 w4z H
    refine s_nil ?_
    refine WD.seq ?_
    refine WD.seq ?_
    refine WD.of ?_
    refine W.region rfl <| s_val (x_ld (p := Pz b_2) (v := I from_) rfl (ldb_sc Sc3 (H.blk (k := 2) rfl) rfl)) <| s_val (x_ld (p := Pz b_3) (v := I to_) rfl (ldb_sc Sc3 (H.blk (k := 1) rfl) rfl)) <| sC from_ to_ (from_ == to_) rfl rfl rfl <| s_nil ?_
    refine WD.cond (from_ == to_) rfl (fun c5z => ?_) (fun c5z => ?_)
    ·replace hM := M.e_t hM c5z
     simp only [qz1, qz2, qz3, qz4, qz5, qz6, ne_eq, qz7] at c5z
     refine WD.seq ?_
     refine WD.of ?_
     refine W.region rfl <| s_val (x_ld (p := Pz b_3) (v := I to_) rfl (ldb_sc Sc3 (H.blk (k := 1) rfl) rfl)) ?_
     refine t_bs (α := Int) T34 [I to_] [(to_ : Int)] H rfl (.cons rfl (Flat.rep_enc _ (to_ : Int)) <| .nil) rfl rfl rfl ?_
     intro v6z w7z H
     refine t_st (k := 1) (b := b_4) (off := 0) (cs := [.slice none 0 0]) (vs := [v6z]) (cs' := [v6z]) (v := v6z) (L' := [cOwn (α := Int) 3 v6z ([(to_ : Int)]), cBlk b_4 [v6z] 34, cBlk b_3 [I to_] 3, cBlk b_2 [I from_] 3, cBlk b_1 [Pz b_s] 160, cMk ([]), cMap I B b_s_met s_met]) H rfl rfl rfl Sz34 (Sl.cells (ownSl (H.get (k := 0) rfl))) rfl rfl (by simp only [List.all_cons, List.all_nil, Bool.true_and, Bool.and_true, Sl.oc (ownSl (H.get (k := 0) rfl))]; try rfl) rfl rfl ?_
     intro w8z H
     refine s_nil ?_
     refine WD.of ?_
     refine W.ret ?_
     refine bodyD_r (H.pick [5, 0, 1, 2, 3, 4, 6] (by decide) rfl) ?_
     intro w9z H
     replace H : St w w9z [cOwn (α := Int) 3 v6z ([(to_ : Int)]), cBlk b_4 [v6z] 34, cBlk b_3 [I to_] 3, cBlk b_2 [I from_] 3, cBlk b_1 [Pz b_s] 160, cMap I B b_s_met s_met] R := H
     have hb10z := (H.blk (k := 1) rfl)
     have hr_ := M.e_pure hM
     exact ⟨_, (resE_of1 (v := v6z) rfl (.cell (v := v6z) rfl (run_loadVar_sc Sc34 hb10z rfl) <| .nil)), ⟨([(to_ : Int)]), s_met, v6z, hr_, rfl, (H.pick [0, 5] (by decide) rfl), (fun h_ => absurd h_ (by simp))⟩⟩
    replace hM := M.e_f hM c5z
    simp only [qz1, qz2, qz3, qz4, qz5, qz6, ne_eq, qz7] at c5z
    refine WD.of ?_
    refine W.skip ?_
    refine WD.seq ?_
    refine WD.of ?_
    refine W.draw (fun W => St w W [cBlk b_4 [.slice none 0 0] 34, cBlk b_3 [I to_] 3, cBlk b_2 [I from_] 3, cBlk b_1 [Pz b_s] 160, cMk ([])] R) [(0, true), (1, true), (2, true), (3, true), (4, true), (5, false)] mixed (by decide +kernel) rfl ?_
    intro w11z hx_
    replace H : St w w11z [cBlk b_4 [.slice none 0 0] 34, cBlk b_3 [I to_] 3, cBlk b_2 [I from_] 3, cBlk b_1 [Pz b_s] 160, cMk ([]), cMap I B b_s_met s_met] R := H.ext hx_
    clear hx_
    refine ⟨(H.pick [0, 1, 2, 3, 4] (by decide) rfl), ?_⟩
    refine d_q rfl (fun w' H => x_ld (p := Pz b_1) (v := Pz b_s) rfl (ldb_sc Sc160 (H.blk (k := 3) rfl) rfl)) ?_
    refine d_q rfl (fun w' H => x_nc (a := ⟨b_s, 0, none⟩) rfl) ?_
    refine d_q rfl (fun w' H => x_fa (a := Pz b_s) (v := Oz b_s 2) rfl (fa_blk (o := 0) Fd211_2 Sz178)) ?_
    refine d_q rfl (fun w' H => x_ld (p := Oz b_s 2) (v := .map (some b_s_met)) rfl (ldb_sc Sc178 (h_b_s.blk H) rfl)) ?_
    refine d_q rfl (fun w' H => x_ld (p := Pz b_2) (v := I from_) rfl (ldb_sc Sc3 (H.blk (k := 2) rfl) rfl)) ?_
    refine d_l rfl ?_
    refine t_mapu (i := 5) (kenc := I) (venc := B) (f := s_met) (k := (from_ : Int)) (v := true) (L' := [cBlk b_4 [.slice none 0 0] 34, cBlk b_3 [I to_] 3, cBlk b_2 [I from_] 3, cBlk b_1 [Pz b_s] 160, cMk ([]), cMap I B b_s_met (updF s_met (from_ : Int) true)]) keyIntB Try.underlying178 H rfl rfl rfl rfl rfl ?_
    intro w12z H
    refine s_nil ⟨(H.pick [0, 1, 2, 3, 4] (by decide) rfl), ?_⟩
    refine d_nil ?_
    refine WD.seq ?_
    refine WD.seq ?_
    refine WD.of ?_
    refine W.draw (fun W => St w W [cBlk b_4 [.slice none 0 0] 34, cBlk b_3 [I to_] 3, cBlk b_2 [I from_] 3, cBlk b_1 [Pz b_s] 160, cMk ([]), cMap I B b_s_met (updF s_met (from_ : Int) true)] R) [(0, true), (1, true), (2, true), (3, true), (4, true), (5, false)] mixed (by decide +kernel) rfl ?_
    intro w13z hx_
    replace H : St w w13z [cBlk b_4 [.slice none 0 0] 34, cBlk b_3 [I to_] 3, cBlk b_2 [I from_] 3, cBlk b_1 [Pz b_s] 160, cMk ([]), cMap I B b_s_met (updF s_met (from_ : Int) true)] R := H.ext hx_
    clear hx_
    refine ⟨(H.pick [0, 1, 2, 3, 4, 5] (by decide) rfl), ?_⟩
    refine d_q rfl (fun w' H => x_ld (p := Pz b_1) (v := Pz b_s) rfl (ldb_sc Sc160 (H.blk (k := 3) rfl) rfl)) ?_
    refine d_q rfl (fun w' H => x_nc (a := ⟨b_s, 0, none⟩) rfl) ?_
    refine d_q rfl (fun w' H => x_fa (a := Pz b_s) (v := Pz b_s) rfl (fa_blk (o := 0) Fd211_0 Sz127)) ?_
    refine d_q rfl (fun w' H => x_ld (p := Pz b_s) (v := Pz b_s_web) rfl (ldb_sc Sc127 (h_b_s.blk H) rfl)) ?_
    refine d_q rfl (fun w' H => x_ld (p := Pz b_2) (v := I from_) rfl (ldb_sc Sc3 (H.blk (k := 2) rfl) rfl)) ?_
    refine d_l rfl ?_
    obtain ⟨r15z, hx14z, hM⟩ := M.e_bind hM
    refine s_call cf98 [Pz b_s_web, I from_] rfl (notes_web_made_ok s_web_list_works from_ (hC_s_web_list_works.app _) hs_s_web_list_works (h_b_s_web.app _) hx14z _ (St.give (T := [cBlk b_4 [.slice none 0 0] 34, cBlk b_3 [I to_] 3, cBlk b_2 [I from_] 3, cBlk b_1 [Pz b_s] 160, cMk ([]), cMap I B b_s_met (updF s_met (from_ : Int) true)]) H rfl)) ?_
    rintro vq w16z ⟨r10, nb0_6, nb1_7, hr17z, hvq, H2_⟩
    subst hr17z
    subst vq
    try dsimp only at hM
    replace H : St w w16z [cBlk nb0_6 [Pz b_s_web] 127, cBlk nb1_7 [I r10] 3, cBlk b_4 [.slice none 0 0] 34, cBlk b_3 [I to_] 3, cBlk b_2 [I from_] 3, cBlk b_1 [Pz b_s] 160, cMk ([]), cMap I B b_s_met (updF s_met (from_ : Int) true)] R := H.back H2_ rfl
    clear H2_
    refine s_nil ⟨(H.pick [2, 3, 4, 5, 6, 7] (by decide) rfl), ?_⟩
    refine d_nil ?_
    refine WD.block ?_
    obtain ⟨t18z, hx19z, hM⟩ := M.e_bind hM
    refine WD.range (L := [cBlk b_4 [.slice none 0 0] 34, cMap I B b_s_met (updF s_met (from_ : Int) true), cBlk nb0_6 [Pz b_s_web] 127, cBlk nb1_7 [I r10] 3, cBlk b_3 [I to_] 3, cBlk b_2 [I from_] 3, cBlk b_1 [Pz b_s] 160]) [Pz nb0_6, Pz nb1_7] (H.pick [6, 2, 7, 0, 1, 3, 4, 5] (by decide) rfl) rfl cf148 ?_
    intro l20z D21z r22z w23z hr24z H
    have hYC : YieldC Try.prog ([cMk (D21z :: ([])), cBlk nb0_6 [Pz b_s_web] 127, cBlk nb1_7 [I r10] 3, cBlk b_3 [I to_] 3, cBlk b_2 [I from_] 3, cBlk b_1 [Pz b_s] 160] ++ R) arI (yJ l20z r22z (fun mp Ls_ => Ls_ = [cBlk b_4 [.slice none 0 0] 34, cMap I B b_s_met mp]) (fun (l, mp2) Ls_ => ∃ (v_o_9 : Value), Ls_ = [cBlk b_4 [v_o_9] 34, cMap I B b_s_met mp2, cOwn (α := Int) 3 v_o_9 l]) (fun _ => .ret)) (.func (.yield l20z) #[] #[]) (M.yl (m_notes_search_on_b0 s_web_list_works s_enters from_ to_ (M.fixN m_notes_search_on_F n_))) := by
     refine YieldC.mk hr24z (fun mp Ls_ => Ls_ = [cBlk b_4 [.slice none 0 0] 34, cMap I B b_s_met mp]) (fun (l, mp2) Ls_ => ∃ (v_o_9 : Value), Ls_ = [cBlk b_4 [v_o_9] 34, cMap I B b_s_met mp2, cOwn (α := Int) 3 v_o_9 l]) (fun _ => .ret) (m_notes_search_on_b0 s_web_list_works s_enters from_ to_ (M.fixN m_notes_search_on_F n_)) (by rintro mp _ h_; obtain ⟨rfl⟩ := h_; rfl) (by rintro ⟨l, mp2⟩ _ h_; (obtain ⟨_, rfl⟩ := h_; rfl)) rfl (arI_len rfl) ?_
     intro C_ vs_ x W_ hA_
     obtain rfl := hA_
     refine W.region rfl <| sA (I x) rfl <| s_nil ?_
     refine ⟨rfl, rfl, ?_⟩
     intro w R hR_ Ls_ s_ r hY_ hM H
     skip
     obtain ⟨mp, hs_eq_⟩ : ∃ y_, y_ = s_ := ⟨_, rfl⟩
     subst hs_eq_
     obtain ⟨rfl⟩ := hY_
     replace hC_s_web_list_works := hC_s_web_list_works.sub hR_
     replace h_b_s_web := h_b_s_web.sub hR_
     replace hf_s_enters := hf_s_enters.sub hR_
     replace h_b_s := h_b_s.sub hR_
     replace hM : (m_notes_search_on_b0 s_web_list_works s_enters from_ to_ (M.fixN m_notes_search_on_F n_) mp x).Ends r := hM
     simp only [m_notes_search_on_b0] at hM
     replace H : St w w [cBlk b_4 [.slice none 0 0] 34, cMap I B b_s_met mp, cBlk nb0_6 [Pz b_s_web] 127, cBlk nb1_7 [I r10] 3, cBlk b_3 [I to_] 3, cBlk b_2 [I from_] 3, cBlk b_1 [Pz b_s] 160, cMk (D21z :: ([]))] R := H.pick [0, 1, 3, 4, 5, 6, 7, 2] (by decide) rfl
     refine W.block <| W.seq <| sQ rfl <| s_val (x_ld (p := Pz b_1) (v := Pz b_s) rfl (ldb_sc Sc160 (H.blk (k := 6) rfl) rfl)) <| s_val (x_nc (a := ⟨b_s, 0, none⟩) rfl) <| s_val (x_fa (a := Pz b_s) (v := Oz b_s 2) rfl (fa_blk (o := 0) Fd211_2 Sz178)) <| s_val (x_ld (p := Oz b_s 2) (v := .map (some b_s_met)) rfl (ldb_sc Sc178 (h_b_s.blk H) rfl)) <| sM (I x) rfl <| s_val (q_look (kenc := I) (venc := B) (f := mp) (k := (x : Int)) (v := B ((mp (x : Int)).getD false)) keyIntB Try.underlying178 Al4 rfl rfl (H.get (k := 1) rfl) false (by rw [if_neg (by decide), bool_val])) <| sM (B ((mp (x : Int)).getD false)) rfl <| g_val (!((mp (x : Int)).getD false)) (gy_f rfl) (fun hg => x_mv (v := I x) rfl) ?_
     refine g_val (!((mp (x : Int)).getD false)) (gy_f rfl) (fun hg => x_ld (p := Pz b_3) (v := I to_) rfl (ldb_sc Sc3 (H.blk (k := 4) rfl) rfl)) <| g_val (!((mp (x : Int)).getD false)) (gy_f rfl) (fun hg => x_cmp (kd := .i64) (a := x) (b := to_) (r := x != to_) (gd_of (c := !((mp (x : Int)).getD false)) hg (I x)) (gd_of (c := !((mp (x : Int)).getD false)) hg (I to_)) rfl) <| g_val (!((mp (x : Int)).getD false)) (gy_f rfl) (fun hg => x_mv (v := B (x != to_)) (gd_of (c := !((mp (x : Int)).getD false)) hg (B (x != to_)))) <| g_val ((!((mp (x : Int)).getD false)) && (x != to_)) (gy_gt rfl rfl) (fun hg => x_ld (p := Pz b_1) (v := Pz b_s) rfl (ldb_sc Sc160 (H.blk (k := 6) rfl) rfl)) <| g_val ((!((mp (x : Int)).getD false)) && (x != to_)) (gy_gt rfl rfl) (fun hg => x_nc (a := ⟨b_s, 0, none⟩) (gd_of (c := ((!((mp (x : Int)).getD false)) && (x != to_))) hg (Pz b_s))) <| g_val ((!((mp (x : Int)).getD false)) && (x != to_)) (gy_gt rfl rfl) (fun hg => x_fa (a := Pz b_s) (v := Oz b_s 1) (gd_of (c := ((!((mp (x : Int)).getD false)) && (x != to_))) hg (Pz b_s)) (fa_blk (o := 0) Fd211_1 Sz75)) <| g_val ((!((mp (x : Int)).getD false)) && (x != to_)) (gy_gt rfl rfl) (fun hg => x_ld (p := Oz b_s 1) (v := v_s_enters) (gd_of (c := ((!((mp (x : Int)).getD false)) && (x != to_))) hg (Oz b_s 1)) (ldb_sc Sc75 (h_b_s.blk H) rfl)) <| g_val ((!((mp (x : Int)).getD false)) && (x != to_)) (gy_gt rfl rfl) (fun hg => x_mv (v := I x) rfl) ?_
     refine g_splitV ((!((mp (x : Int)).getD false)) && (x != to_)) (B false) (gy_gt rfl rfl) (fun hg_ => ?_) (fun hg_ => ?_)
     ·replace hM := M.e_t hM hg_
      obtain ⟨r9, hx28z, hM⟩ := M.e_bind hM
      refine t_callM H hf_s_enters (gd_of (c := ((!((mp (x : Int)).getD false)) && (x != to_))) hg_ (v_s_enters)) (gd_of (c := ((!((mp (x : Int)).getD false)) && (x != to_))) hg_ (I x)) x Reads.none (Arg.mkI (fun _ => none) _) hx28z ?_
      intro w27z H
      refine g_val ((!((mp (x : Int)).getD false)) && (x != to_)) (gy_gt rfl rfl) (fun hg => x_not (b := r9) rfl) <| g_val (!((mp (x : Int)).getD false)) (gy_f rfl) (fun hg => x_pand (b := x != to_) (r := !r9) (gd_of (c := !((mp (x : Int)).getD false)) hg (B (x != to_))) (fun hb => gd_of (c := ((!((mp (x : Int)).getD false)) && (x != to_))) (by first | exact hb | (rw [hb]; rfl) | simp_all) (B (!r9))) rfl) <| s_val (x_por (b := (mp (x : Int)).getD false) (r := ((x != to_) && (!r9))) rfl rfl (fun hb => gd_of (c := !((mp (x : Int)).getD false)) (by first | exact hb | (rw [hb]; rfl) | simp_all) (B ((x != to_) && (!r9))))) <| s_nil ?_
      refine W.cond (((mp (x : Int)).getD false) || ((x != to_) && (!r9))) rfl (fun c29z => ?_) (fun c29z => ?_)
      ·replace hM := M.e_t hM c29z
       refine W.exit ?_
       exact ⟨mp, [cBlk b_4 [.slice none 0 0] 34, cMap I B b_s_met mp], (M.e_pure hM).symm, rfl, H.pick [0, 1, 7, 2, 3, 4, 5, 6] (by decide) rfl⟩
      replace hM := M.e_f hM c29z
      refine W.skip <| sQ rfl <| s_val (x_ld (p := Pz b_1) (v := Pz b_s) rfl (ldb_sc Sc160 (H.blk (k := 6) rfl) rfl)) <| sM (I x) rfl <| s_val (x_ld (p := Pz b_3) (v := I to_) rfl (ldb_sc Sc3 (H.blk (k := 4) rfl) rfl)) ?_
      obtain ⟨r31z, hx30z, hM⟩ := M.e_bind hM
      refine s_call cf150 [Pz b_s, I x, I to_] rfl (ih s_web_list_works s_enters mp x to_ (hC_s_web_list_works.app _) hs_s_web_list_works (h_b_s_web.app _) (hf_s_enters.app _) (h_b_s.app _) hx30z _ (St.give (L := [cMap I B b_s_met mp, cBlk b_4 [.slice none 0 0] 34, cBlk nb0_6 [Pz b_s_web] 127, cBlk nb1_7 [I r10] 3, cBlk b_3 [I to_] 3, cBlk b_2 [I from_] 3, cBlk b_1 [Pz b_s] 160, cMk (D21z :: ([]))]) (A := [cMap I B b_s_met mp]) (T := [cBlk b_4 [.slice none 0 0] 34, cBlk nb0_6 [Pz b_s_web] 127, cBlk nb1_7 [I r10] 3, cBlk b_3 [I to_] 3, cBlk b_2 [I from_] 3, cBlk b_1 [Pz b_s] 160, cMk (D21z :: ([]))]) (H.pick [1, 0, 2, 3, 4, 5, 6, 7] (by decide) rfl) rfl)) ?_
      rintro vq w32z ⟨r4, q_b_s_met, u0_8, hr33z, hvq, H2_, hf34z⟩
      subst hr33z
      subst vq
      try dsimp only at hM
      replace H : St w w32z [cOwn (α := Int) 3 u0_8 r4, cMap I B b_s_met q_b_s_met, cBlk b_4 [.slice none 0 0] 34, cBlk nb0_6 [Pz b_s_web] 127, cBlk nb1_7 [I r10] 3, cBlk b_3 [I to_] 3, cBlk b_2 [I from_] 3, cBlk b_1 [Pz b_s] 160, cMk (D21z :: ([]))] R := H.pick [1, 0, 2, 3, 4, 5, 6, 7] (by decide) rfl |>.back H2_ rfl
      clear H2_
      refine sA u0_8 rfl <| s_nil <| sQ rfl <| sM u0_8 rfl <| s_val (x_nenil (α := Int) T34.und rfl rfl (ownSl (H.get (k := 0) rfl)) hf34z) <| s_nil ?_
      refine W.cond (!r4.isEmpty) rfl (fun c35z => ?_) (fun c35z => ?_)
      ·replace hM := M.e_t hM c35z
       refine sQ rfl <| s_val (x_ld (p := Pz b_2) (v := I from_) rfl (ldb_sc Sc3 (H.blk (k := 6) rfl) rfl)) ?_
       refine t_bs (α := Int) T34 [I from_] [(from_ : Int)] H rfl (.cons rfl (Flat.rep_enc _ (from_ : Int)) <| .nil) rfl rfl rfl ?_
       intro v36z w37z H
       refine sM u0_8 rfl ?_
       obtain ⟨sd38z, hM⟩ := M.e_gd hM
       refine t_app (α := Int) (k := 0) (l := [(from_ : Int)]) (l2 := r4) (l' := ([(from_ : Int)]) ++ r4) (vy := u0_8) T34 rfl H rfl rfl rfl (ownSl (H.get (k := 1) rfl)) (ownLe _ (H.get (k := 1) rfl)) (rfl) (by first | omega | (simp only [List.length_nil] at *; omega)) ?_
       intro v39z w40z H
       replace H : St w w40z [cOwn (α := Int) 3 v39z (([(from_ : Int)]) ++ r4), cOwn (α := Int) 3 u0_8 r4, cMap I B b_s_met q_b_s_met, cBlk b_4 [.slice none 0 0] 34, cBlk nb0_6 [Pz b_s_web] 127, cBlk nb1_7 [I r10] 3, cBlk b_3 [I to_] 3, cBlk b_2 [I from_] 3, cBlk b_1 [Pz b_s] 160, cMk (D21z :: ([]))] R := H
       refine t_st (k := 3) (b := b_4) (off := 0) (cs := [.slice none 0 0]) (vs := [v39z]) (cs' := [v39z]) (v := v39z) (L' := [cOwn (α := Int) 3 v39z (([(from_ : Int)]) ++ r4), cOwn (α := Int) 3 u0_8 r4, cMap I B b_s_met q_b_s_met, cBlk b_4 [v39z] 34, cBlk nb0_6 [Pz b_s_web] 127, cBlk nb1_7 [I r10] 3, cBlk b_3 [I to_] 3, cBlk b_2 [I from_] 3, cBlk b_1 [Pz b_s] 160, cMk (D21z :: ([]))]) H rfl rfl rfl Sz34 (Sl.cells (ownSl (H.get (k := 0) rfl))) rfl rfl (by simp only [List.all_cons, List.all_nil, Bool.true_and, Bool.and_true, Sl.oc (ownSl (H.get (k := 0) rfl))]; try rfl) rfl rfl ?_
       intro w41z H
       refine s_nil ?_
       refine W.ret ?_
       exact ⟨(([(from_ : Int)]) ++ r4, q_b_s_met), [cBlk b_4 [v39z] 34, cMap I B b_s_met q_b_s_met, cOwn (α := Int) 3 v39z (([(from_ : Int)]) ++ r4)], (M.e_pure hM).symm, ⟨v39z, rfl⟩, H.pick [3, 2, 0, 9, 4, 5, 6, 7, 8] (by decide) rfl, rfl⟩
      replace hM := M.e_f hM c35z
      refine W.skip ?_
      exact ⟨q_b_s_met, [cBlk b_4 [.slice none 0 0] 34, cMap I B b_s_met q_b_s_met], (M.e_pure hM).symm, rfl, H.pick [2, 1, 8, 3, 4, 5, 6, 7] (by decide) rfl⟩
     replace hM := M.e_f hM hg_
     refine g_val ((!((mp (x : Int)).getD false)) && (x != to_)) (gy_gt rfl rfl) (fun hg => x_not (b := false) (gd_of (c := ((!((mp (x : Int)).getD false)) && (x != to_))) hg (B false))) <| g_val (!((mp (x : Int)).getD false)) (gy_f rfl) (fun hg => x_pand (b := x != to_) (r := !false) (gd_of (c := !((mp (x : Int)).getD false)) hg (B (x != to_))) (fun hb => gd_of (c := ((!((mp (x : Int)).getD false)) && (x != to_))) (by first | exact hb | (rw [hb]; rfl) | simp_all) (B (!false))) rfl) <| s_val (x_por (b := (mp (x : Int)).getD false) (r := ((x != to_) && (!false))) rfl rfl (fun hb => gd_of (c := !((mp (x : Int)).getD false)) (by first | exact hb | (rw [hb]; rfl) | simp_all) (B ((x != to_) && (!false))))) <| s_nil ?_
     refine W.cond (((mp (x : Int)).getD false) || ((x != to_) && (!false))) rfl (fun c42z => ?_) (fun c42z => ?_)
     ·replace hM := M.e_t hM c42z
      refine W.exit ?_
      exact ⟨mp, [cBlk b_4 [.slice none 0 0] 34, cMap I B b_s_met mp], (M.e_pure hM).symm, rfl, H.pick [0, 1, 7, 2, 3, 4, 5, 6] (by decide) rfl⟩
     replace hM := M.e_f hM c42z
     refine W.skip <| sQ rfl <| s_val (x_ld (p := Pz b_1) (v := Pz b_s) rfl (ldb_sc Sc160 (H.blk (k := 6) rfl) rfl)) <| sM (I x) rfl <| s_val (x_ld (p := Pz b_3) (v := I to_) rfl (ldb_sc Sc3 (H.blk (k := 4) rfl) rfl)) ?_
     obtain ⟨r44z, hx43z, hM⟩ := M.e_bind hM
     refine s_call cf150 [Pz b_s, I x, I to_] rfl (ih s_web_list_works s_enters mp x to_ (hC_s_web_list_works.app _) hs_s_web_list_works (h_b_s_web.app _) (hf_s_enters.app _) (h_b_s.app _) hx43z _ (St.give (L := [cMap I B b_s_met mp, cBlk b_4 [.slice none 0 0] 34, cBlk nb0_6 [Pz b_s_web] 127, cBlk nb1_7 [I r10] 3, cBlk b_3 [I to_] 3, cBlk b_2 [I from_] 3, cBlk b_1 [Pz b_s] 160, cMk (D21z :: ([]))]) (A := [cMap I B b_s_met mp]) (T := [cBlk b_4 [.slice none 0 0] 34, cBlk nb0_6 [Pz b_s_web] 127, cBlk nb1_7 [I r10] 3, cBlk b_3 [I to_] 3, cBlk b_2 [I from_] 3, cBlk b_1 [Pz b_s] 160, cMk (D21z :: ([]))]) (H.pick [1, 0, 2, 3, 4, 5, 6, 7] (by decide) rfl) rfl)) ?_
     rintro vq w45z ⟨r4, q_b_s_met, u0_8, hr46z, hvq, H2_, hf47z⟩
     subst hr46z
     subst vq
     try dsimp only at hM
     replace H : St w w45z [cOwn (α := Int) 3 u0_8 r4, cMap I B b_s_met q_b_s_met, cBlk b_4 [.slice none 0 0] 34, cBlk nb0_6 [Pz b_s_web] 127, cBlk nb1_7 [I r10] 3, cBlk b_3 [I to_] 3, cBlk b_2 [I from_] 3, cBlk b_1 [Pz b_s] 160, cMk (D21z :: ([]))] R := H.pick [1, 0, 2, 3, 4, 5, 6, 7] (by decide) rfl |>.back H2_ rfl
     clear H2_
     refine sA u0_8 rfl <| s_nil <| sQ rfl <| sM u0_8 rfl <| s_val (x_nenil (α := Int) T34.und rfl rfl (ownSl (H.get (k := 0) rfl)) hf47z) <| s_nil ?_
     refine W.cond (!r4.isEmpty) rfl (fun c48z => ?_) (fun c48z => ?_)
     ·replace hM := M.e_t hM c48z
      refine sQ rfl <| s_val (x_ld (p := Pz b_2) (v := I from_) rfl (ldb_sc Sc3 (H.blk (k := 6) rfl) rfl)) ?_
      refine t_bs (α := Int) T34 [I from_] [(from_ : Int)] H rfl (.cons rfl (Flat.rep_enc _ (from_ : Int)) <| .nil) rfl rfl rfl ?_
      intro v49z w50z H
      refine sM u0_8 rfl ?_
      obtain ⟨sd51z, hM⟩ := M.e_gd hM
      refine t_app (α := Int) (k := 0) (l := [(from_ : Int)]) (l2 := r4) (l' := ([(from_ : Int)]) ++ r4) (vy := u0_8) T34 rfl H rfl rfl rfl (ownSl (H.get (k := 1) rfl)) (ownLe _ (H.get (k := 1) rfl)) (rfl) (by first | omega | (simp only [List.length_nil] at *; omega)) ?_
      intro v52z w53z H
      replace H : St w w53z [cOwn (α := Int) 3 v52z (([(from_ : Int)]) ++ r4), cOwn (α := Int) 3 u0_8 r4, cMap I B b_s_met q_b_s_met, cBlk b_4 [.slice none 0 0] 34, cBlk nb0_6 [Pz b_s_web] 127, cBlk nb1_7 [I r10] 3, cBlk b_3 [I to_] 3, cBlk b_2 [I from_] 3, cBlk b_1 [Pz b_s] 160, cMk (D21z :: ([]))] R := H
      refine t_st (k := 3) (b := b_4) (off := 0) (cs := [.slice none 0 0]) (vs := [v52z]) (cs' := [v52z]) (v := v52z) (L' := [cOwn (α := Int) 3 v52z (([(from_ : Int)]) ++ r4), cOwn (α := Int) 3 u0_8 r4, cMap I B b_s_met q_b_s_met, cBlk b_4 [v52z] 34, cBlk nb0_6 [Pz b_s_web] 127, cBlk nb1_7 [I r10] 3, cBlk b_3 [I to_] 3, cBlk b_2 [I from_] 3, cBlk b_1 [Pz b_s] 160, cMk (D21z :: ([]))]) H rfl rfl rfl Sz34 (Sl.cells (ownSl (H.get (k := 0) rfl))) rfl rfl (by simp only [List.all_cons, List.all_nil, Bool.true_and, Bool.and_true, Sl.oc (ownSl (H.get (k := 0) rfl))]; try rfl) rfl rfl ?_
      intro w54z H
      refine s_nil ?_
      refine W.ret ?_
      exact ⟨(([(from_ : Int)]) ++ r4, q_b_s_met), [cBlk b_4 [v52z] 34, cMap I B b_s_met q_b_s_met, cOwn (α := Int) 3 v52z (([(from_ : Int)]) ++ r4)], (M.e_pure hM).symm, ⟨v52z, rfl⟩, H.pick [3, 2, 0, 9, 4, 5, 6, 7, 8] (by decide) rfl, rfl⟩
     replace hM := M.e_f hM c48z
     refine W.skip ?_
     exact ⟨q_b_s_met, [cBlk b_4 [.slice none 0 0] 34, cMap I B b_s_met q_b_s_met], (M.e_pure hM).symm, rfl, H.pick [2, 1, 8, 3, 4, 5, 6, 7] (by decide) rfl⟩
    replace H : St w w23z (cAll (cObj l20z (.loop r22z) :: [cBlk b_4 [.slice none 0 0] 34, cMap I B b_s_met (updF s_met (from_ : Int) true)]) :: [cMk (D21z :: ([])), cBlk nb0_6 [Pz b_s_web] 127, cBlk nb1_7 [I r10] 3, cBlk b_3 [I to_] 3, cBlk b_2 [I from_] 3, cBlk b_1 [Pz b_s] 160]) R := St.bundleB (A := cObj l20z (.loop r22z) :: [cBlk b_4 [.slice none 0 0] 34, cMap I B b_s_met (updF s_met (from_ : Int) true)]) (T := [cMk (D21z :: ([])), cBlk nb0_6 [Pz b_s_web] 127, cBlk nb1_7 [I r10] 3, cBlk b_3 [I to_] 3, cBlk b_2 [I from_] 3, cBlk b_1 [Pz b_s] 160]) rfl (H.pick [0, 2, 3, 1, 4, 5, 6, 7, 8] (by decide) rfl)
    refine (notes_web_made_1_ok (M.yl (m_notes_search_on_b0 s_web_list_works s_enters from_ to_ (M.fixN m_notes_search_on_F n_))) (.inl (updF s_met (from_ : Int) true)) s_web_list_works r10 hYC ⟨_, rfl, rfl⟩ (hC_s_web_list_works.app _) hs_s_web_list_works (h_b_s_web.app _) (Has.here (k := 1) rfl) (Has.here (k := 2) rfl) hx19z _ (St.give (A := [cAll (cObj l20z (.loop r22z) :: [cBlk b_4 [.slice none 0 0] 34, cMap I B b_s_met (updF s_met (from_ : Int) true)])]) (T := [cMk (D21z :: ([])), cBlk nb0_6 [Pz b_s_web] 127, cBlk nb1_7 [I r10] 3, cBlk b_3 [I to_] 3, cBlk b_2 [I from_] 3, cBlk b_1 [Pz b_s] 160]) H rfl)).mono ?_
    rintro vq w55z ⟨t59z, Ls57z, hq60z, hvq, H2_, hY58z⟩
    subst hq60z
    replace H := H.back H2_ rfl
    clear H2_ hYC
    rcases t59z with mp | ⟨l, mp2⟩
    ·try dsimp only at hM
     obtain ⟨_, rfl, rfl⟩ := hY58z
     refine ⟨_, [cBlk b_4 [.slice none 0 0] 34, cMap I B b_s_met mp, cBlk nb0_6 [Pz b_s_web] 127, cBlk nb1_7 [I r10] 3, cBlk b_3 [I to_] 3, cBlk b_2 [I from_] 3, cBlk b_1 [Pz b_s] 160], H.unbundle.pick [0, 3, 1, 2, 4, 5, 6, 7, 8] (by decide) rfl, hr24z.nb, ?_⟩
     intro w56z H
     rw [hr24z.pd]
     replace H : St w w56z [cMk (D21z :: ([])), cBlk b_4 [.slice none 0 0] 34, cMap I B b_s_met mp, cBlk nb0_6 [Pz b_s_web] 127, cBlk nb1_7 [I r10] 3, cBlk b_3 [I to_] 3, cBlk b_2 [I from_] 3, cBlk b_1 [Pz b_s] 160] R := H
     try simp only []
     refine WD.seq ?_
     refine WD.of ?_
     refine W.region rfl ?_
     refine t_st (k := 1) (b := b_4) (off := 0) (cs := [.slice none 0 0]) (vs := [.slice none 0 0]) (cs' := [.slice none 0 0]) (v := .slice none 0 0) (L' := [cMk (D21z :: ([])), cBlk b_4 [.slice none 0 0] 34, cMap I B b_s_met mp, cBlk nb0_6 [Pz b_s_web] 127, cBlk nb1_7 [I r10] 3, cBlk b_3 [I to_] 3, cBlk b_2 [I from_] 3, cBlk b_1 [Pz b_s] 160]) H rfl rfl rfl Sz34 rfl rfl rfl rfl rfl rfl ?_
     intro w61z H
     refine s_nil ?_
     refine WD.of ?_
     refine W.ret ?_
     refine bodyD_r (H.pick [0, 1, 2, 3, 4, 5, 6, 7] (by decide) rfl) ?_
     intro w62z H
     replace H : St w w62z [cBlk b_4 [.slice none 0 0] 34, cMap I B b_s_met mp, cBlk nb0_6 [Pz b_s_web] 127, cBlk nb1_7 [I r10] 3, cBlk b_3 [I to_] 3, cBlk b_2 [I from_] 3, cBlk b_1 [Pz b_s] 160] R := H
     have hb63z := (H.blk (k := 0) rfl)
     have hr_ := M.e_pure hM
     replace H : St w w62z [cOwn (α := Int) 3 (.slice none 0 0) ([]), cBlk b_4 [.slice none 0 0] 34, cMap I B b_s_met mp, cBlk nb0_6 [Pz b_s_web] 127, cBlk nb1_7 [I r10] 3, cBlk b_3 [I to_] 3, cBlk b_2 [I from_] 3, cBlk b_1 [Pz b_s] 160] R := H.nilOwn (α := Int) 3
     exact ⟨_, (resE_of1 (v := .slice none 0 0) rfl (.cell (v := .slice none 0 0) rfl (run_loadVar_sc Sc34 hb63z rfl) <| .nil)), ⟨([]), mp, (.slice none 0 0), hr_, rfl, (H.pick [0, 2] (by decide) rfl), (fun _ => rfl)⟩⟩
    try dsimp only at hM
    obtain ⟨_, rfl, v_o_9, rfl⟩ := hY58z
    refine ⟨_, [cBlk b_4 [v_o_9] 34, cMap I B b_s_met mp2, cOwn (α := Int) 3 v_o_9 l, cBlk nb0_6 [Pz b_s_web] 127, cBlk nb1_7 [I r10] 3, cBlk b_3 [I to_] 3, cBlk b_2 [I from_] 3, cBlk b_1 [Pz b_s] 160], H.unbundle.pick [0, 4, 1, 2, 3, 5, 6, 7, 8, 9] (by decide) rfl, nofun, ?_⟩
    intro w56z H
    show WD _ _ _ (.ret) _ _ _
    refine WD.of ?_
    refine W.ret ?_
    replace H : St w w56z [cMk (D21z :: ([])), cBlk b_4 [v_o_9] 34, cMap I B b_s_met mp2, cOwn (α := Int) 3 v_o_9 l, cBlk nb0_6 [Pz b_s_web] 127, cBlk nb1_7 [I r10] 3, cBlk b_3 [I to_] 3, cBlk b_2 [I from_] 3, cBlk b_1 [Pz b_s] 160] R := H
    refine bodyD_r (H.pick [0, 1, 2, 3, 4, 5, 6, 7, 8] (by decide) rfl) ?_
    intro w64z H
    replace H : St w w64z [cBlk b_4 [v_o_9] 34, cMap I B b_s_met mp2, cOwn (α := Int) 3 v_o_9 l, cBlk nb0_6 [Pz b_s_web] 127, cBlk nb1_7 [I r10] 3, cBlk b_3 [I to_] 3, cBlk b_2 [I from_] 3, cBlk b_1 [Pz b_s] 160] R := H
    have hb65z := (H.blk (k := 0) rfl)
    obtain ⟨sd66z, hM⟩ := M.e_grd hM
    simp only [decide_eq_true_eq] at sd66z
    have hr_ := M.e_pure hM
    exact ⟨_, (resE_of1 (v := v_o_9) rfl (.cell (v := v_o_9) rfl (run_loadVar_sc Sc34 hb65z rfl) <| .nil)), ⟨l, mp2, v_o_9, hr_, rfl, (H.pick [2, 1] (by decide) rfl), (fun h_ => by rw [h_] at sd66z; simp at sd66z)⟩⟩
theorem notes_search_on_ok {R : List Chunk} {b_s : Nat} {b_s_web : Nat} {C_s_web_list_works : Cells} {v_s_web_list_works : Value} {v_s_enters : Value} {b_s_met : Nat} (s_web_list_works : List Work) (s_enters : Int → M Bool) (s_met : Int → Option Bool) (from_ : Int) (to_ : Int) (hC_s_web_list_works : Reads R C_s_web_list_works) (hs_s_web_list_works : Sl C_s_web_list_works v_s_web_list_works s_web_list_works) (h_b_s_web : Has R (cBlk b_s_web [v_s_web_list_works] 187)) (hf_s_enters : FnM Try.prog R v_s_enters s_enters) (h_b_s : Has R (cBlk b_s [Pz b_s_web, v_s_enters, .map (some b_s_met)] 211)) {r : ((List Int) × (Int → Option Bool))} (hM : (m_notes_search_on s_web_list_works s_enters s_met from_ to_).Ends r) (w : World) (H : St w w [cMap I B b_s_met s_met] R) : Ret Try.prog 150 #[Pz b_s, I from_, I to_] w fun v w' => ∃ (y0 : List Int) (y1 : Int → Option Bool) (u0 : Value), (y0, y1) = r ∧ v = u0 ∧ St w w' [cOwn (α := Int) 3 u0 y0, cMap I B b_s_met y1] R ∧ (y0 = [] → u0 = .slice none 0 0) := by
  obtain ⟨n_, hM⟩ := M.e_fix hM
  exact notes_search_on_okN n_ s_web_list_works s_enters s_met from_ to_ hC_s_web_list_works hs_s_web_list_works h_b_s_web hf_s_enters h_b_s hM w H

def m_notes_search_line (s_web_list_works : List Work) (s_enters : Int → M Bool) (s_met : Int → Option Bool) (from_ : Int) (to_ : Int) : M ((List Int) × (Int → Option Bool)) :=
  M.bind (m_notes_search_on s_web_list_works s_enters (fun _ => none) from_ to_) fun (r2, q_b_s_met) =>
  M.pure (r2, q_b_s_met)
theorem notes_search_line_ok {R : List Chunk} {b_s : Nat} {b_s_web : Nat} {C_s_web_list_works : Cells} {v_s_web_list_works : Value} {v_s_enters : Value} {b_s_met : Nat} (s_web_list_works : List Work) (s_enters : Int → M Bool) (s_met : Int → Option Bool) (from_ : Int) (to_ : Int) (hC_s_web_list_works : Reads R C_s_web_list_works) (hs_s_web_list_works : Sl C_s_web_list_works v_s_web_list_works s_web_list_works) (h_b_s_web : Has R (cBlk b_s_web [v_s_web_list_works] 187)) (hf_s_enters : FnM Try.prog R v_s_enters s_enters) (h_b_s : Has R (cBlk b_s [Pz b_s_web, v_s_enters, .map (some b_s_met)] 211)) {r : ((List Int) × (Int → Option Bool))} (hM : (m_notes_search_line s_web_list_works s_enters s_met from_ to_).Ends r) (w : World) (H : St w w [cMap I B b_s_met s_met] R) : Ret Try.prog 110 #[Pz b_s, I from_, I to_] w fun v w' => ∃ (y0 : List Int) (y1 : Int → Option Bool) (u0 : Value), (y0, y1) = r ∧ v = u0 ∧ St w w' [cOwn (α := Int) 3 u0 y0, cMap I B b_s_met y1] R ∧ (y0 = [] → u0 = .slice none 0 0) := by
 refine ret_of_W Try.func110 rfl rfl rfl ?_
 refine sQ rfl <| sA (.slice none 0 0) rfl <| s_nil <| sQ rfl <| sM (Pz b_s) rfl <| s_val (x_nc (a := ⟨b_s, 0, none⟩) rfl) <| s_val (x_fa (a := Pz b_s) (v := Oz b_s 2) rfl (fa_blk (o := 0) Fd211_2 Sz178)) <| s_val (x_ld (p := Oz b_s 2) (v := .map (some b_s_met)) rfl (ldb_sc Sc178 (h_b_s.blk H) rfl)) ?_
 refine t_clearm (i := 0) (kenc := I) (venc := B) (f := s_met) (L' := [cMap I B b_s_met (fun _ => none)]) (by rw [show (#[178] : Array TypeId)[0]?.bind Try.prog.underlying = Try.prog.underlying 178 from rfl, Try.underlying178]; rfl) H rfl rfl rfl ?_
 intro w1z H
 refine s_nil <| sQ rfl <| sM (Pz b_s) rfl <| sM (I from_) rfl <| sM (I to_) rfl ?_
 obtain ⟨r3z, hx2z, hM⟩ := M.e_bind hM
 refine s_call cf150 [Pz b_s, I from_, I to_] rfl (notes_search_on_ok s_web_list_works s_enters (fun _ => none) from_ to_ (hC_s_web_list_works.app _) hs_s_web_list_works (h_b_s_web.app _) (hf_s_enters.app _) (h_b_s.app _) hx2z _ (St.give (T := []) H rfl)) ?_
 rintro vq w4z ⟨r2, q_b_s_met, u0_1, hr5z, hvq, H2_, hf6z⟩
 subst hr5z
 subst vq
 try dsimp only at hM
 replace H : St w w4z [cOwn (α := Int) 3 u0_1 r2, cMap I B b_s_met q_b_s_met] R := H.back H2_ rfl
 clear H2_
 refine sA u0_1 rfl <| s_nil ?_
 refine W.ret ?_
 have hr_ := M.e_pure hM
 exact ⟨_, resE_tmp rfl, ⟨r2, q_b_s_met, u0_1, hr_, rfl, H, hf6z⟩⟩

def m_notes_Line (w_ : List Work) (from_ : Int) (to_ : Int) : M ((List Int) × Int) :=
  bif (openedE w_ == 0) then (
  bif (0 : Int) != 0 then (M.fail) else (bif ((!(inB from_ 0 ((w_.length : Int) - 1))) || (!(inB to_ 0 ((w_.length : Int) - 1)))) then (
  M.pure (([]), 2))
  else (
  M.bind (m_notes_web_search w_ (fun xqz => m_notes_Line_1 xqz)) fun r2 =>
  M.bind (m_notes_search_line w_ (fun xqz => m_notes_Line_1 xqz) r2 from_ to_) fun (r3, q_b_s_met) =>
  bif !r3.isEmpty then (
  M.pure (r3, 0))
  else (
  M.pure (([]), 5)))))
  else (
  bif (openedE w_) != 0 then (
  M.pure (([]), (openedE w_)))
  else (
  bif ((!(inB from_ 0 ((w_.length : Int) - 1))) || (!(inB to_ 0 ((w_.length : Int) - 1)))) then (
  M.pure (([]), 2))
  else (
  M.fail)))
theorem notes_Line_ok {R : List Chunk} {C_w_ : Cells} {v_w_ : Value} (w_ : List Work) (from_ : Int) (to_ : Int) (hC_w_ : Reads R C_w_) (hs_w_ : Sl C_w_ v_w_ w_) {r : ((List Int) × Int)} (hM : (m_notes_Line w_ from_ to_).Ends r) (w : World) (H : St w w [] R) : Ret Try.prog 53 #[v_w_, I from_, I to_] w fun v w' => ∃ (y0 : List Int) (y1 : Int) (u0 : Value), (y0, y1) = r ∧ v = .tuple #[u0, I y1] ∧ St w w' [cOwn (α := Int) 3 u0 y0] R := by
 refine ret_of_W Try.func53 rfl rfl rfl ?_
 refine sQ rfl <| sA (.slice none 0 0) rfl <| sA (I 0) rfl <| s_nil <| sQ rfl <| sM v_w_ rfl ?_
 refine s_call cf81 [v_w_] rfl (opened_any _ (hs_w_.mono (hC_w_.at H))) ?_
 rintro _ w1z (⟨he_, rfl, hx_⟩ | ⟨he_, b_1, u2z, rfl, hn_, hs3z⟩)
 ·replace hM := M.e_f hM (by simpa using he_)
  replace H : St w w1z [] R := H.ext hx_
  clear hx_
  refine sM (.tuple #[.pointer none, .slice none 0 0, I (openedE w_)]) rfl <| sX [.pointer none, .slice none 0 0, I (openedE w_)] (.pointer none) rfl rfl <| sX [.pointer none, .slice none 0 0, I (openedE w_)] (.slice none 0 0) rfl rfl <| sX [.pointer none, .slice none 0 0, I (openedE w_)] (I (openedE w_)) rfl rfl <| sA (.pointer none) rfl <| sA (.slice none 0 0) rfl <| sA (I (openedE w_)) rfl <| s_nil <| W.seq <| W.block <| sQ rfl ?_
  refine sM (I (openedE w_)) rfl <| sC (openedE w_) 0 ((openedE w_) != 0) rfl rfl rfl <| sA (B ((openedE w_) != 0)) rfl <| s_nil ?_
  refine W.cond ((openedE w_) != 0) rfl (fun c4z => ?_) (fun c4z => ?_)
  ·replace hM := M.e_t hM c4z
   simp only [qz1, qz2, qz3, qz4, qz5, qz6, ne_eq, qz7] at c4z
   refine sQ rfl <| sM (I (openedE w_)) rfl <| sA (.slice none 0 0) rfl <| sA (I (openedE w_)) rfl <| s_nil ?_
   refine W.ret ?_
   have hr_ := M.e_pure hM
   replace H : St w w1z [cOwn (α := Int) 3 (.slice none 0 0) ([])] R := H.nilOwn (α := Int) 3
   exact ⟨_, resE_tmp2 rfl, ⟨([]), (openedE w_), (.slice none 0 0), hr_, rfl, H⟩⟩
  replace hM := M.e_f hM c4z
  simp only [qz1, qz2, qz3, qz4, qz5, qz6, ne_eq, qz7] at c4z
  refine sQ rfl <| sM (I from_) rfl <| sM v_w_ rfl ?_
  have hl5z := (hs_w_).len_le
  refine s_val (x_lenS T22.und rfl hs_w_) <| sR (w_.length : Int) 1 ((w_.length : Int) - 1) rfl rfl rfl (by omega) ?_
  refine s_call cf84 [I from_, I 0, I ((w_.length : Int) - 1)] rfl (in_any from_ 0 ((w_.length : Int) - 1) _) ?_
  rintro _ w6z ⟨rfl, hx_⟩
  replace H : St w w6z [] R := H.ext hx_
  clear hx_
  refine s_val (x_not (b := inB from_ 0 ((w_.length : Int) - 1)) rfl) <| sM (B (!(inB from_ 0 ((w_.length : Int) - 1)))) rfl <| g_val (!(!(inB from_ 0 ((w_.length : Int) - 1)))) (gy_f rfl) (fun hg => x_mv (v := I to_) rfl) <| g_val (!(!(inB from_ 0 ((w_.length : Int) - 1)))) (gy_f rfl) (fun hg => x_mv (v := v_w_) rfl) <| g_val (!(!(inB from_ 0 ((w_.length : Int) - 1)))) (gy_f rfl) (fun hg => x_lenS T22.und (gd_of (c := !(!(inB from_ 0 ((w_.length : Int) - 1)))) hg (v_w_)) hs_w_) <| g_val (!(!(inB from_ 0 ((w_.length : Int) - 1)))) (gy_f rfl) (fun hg => x_ari (a := (w_.length : Int)) (b := 1) (r := (w_.length : Int) - 1) (gd_of (c := !(!(inB from_ 0 ((w_.length : Int) - 1)))) hg (I (w_.length : Int))) rfl rfl (by first | omega | (have hx_ := hg; simp at hx_; omega))) ?_
  refine t_gcall (!(!(inB from_ 0 ((w_.length : Int) - 1)))) (gy_f rfl) cf84 (B (inB to_ 0 ((w_.length : Int) - 1))) (fun _ => [I to_, I 0, I ((w_.length : Int) - 1)]) (fun hg => lst3 (gd_of (c := !(!(inB from_ 0 ((w_.length : Int) - 1)))) hg (I to_)) rfl (gd_of (c := !(!(inB from_ 0 ((w_.length : Int) - 1)))) hg (I ((w_.length : Int) - 1)))) H (fun hg => Ret.mono (in_any to_ 0 ((w_.length : Int) - 1) _) fun v_ w_ ⟨hv_, hx_⟩ => ⟨hv_, H.ext hx_⟩) ?_
  intro w8z H
  refine g_val (!(!(inB from_ 0 ((w_.length : Int) - 1)))) (gy_f rfl) (fun hg => x_not (b := inB to_ 0 ((w_.length : Int) - 1)) (gd_of (c := !(!(inB from_ 0 ((w_.length : Int) - 1)))) hg (B (inB to_ 0 ((w_.length : Int) - 1))))) <| s_val (x_por (b := !(inB from_ 0 ((w_.length : Int) - 1))) (r := !(inB to_ 0 ((w_.length : Int) - 1))) rfl rfl (fun hb => gd_of (c := !(!(inB from_ 0 ((w_.length : Int) - 1)))) (by first | exact hb | (rw [hb]; rfl) | simp_all) (B (!(inB to_ 0 ((w_.length : Int) - 1)))))) <| sA (B ((!(inB from_ 0 ((w_.length : Int) - 1))) || (!(inB to_ 0 ((w_.length : Int) - 1))))) rfl <| s_nil ?_
  refine W.cond ((!(inB from_ 0 ((w_.length : Int) - 1))) || (!(inB to_ 0 ((w_.length : Int) - 1)))) rfl (fun c9z => ?_) (fun c9z => ?_)
  ·replace hM := M.e_t hM c9z
   refine sQ rfl <| sA (.slice none 0 0) rfl <| sA (I 2) rfl <| s_nil ?_
   refine W.ret ?_
   have hr_ := M.e_pure hM
   replace H : St w w8z [cOwn (α := Int) 3 (.slice none 0 0) ([])] R := H.nilOwn (α := Int) 3
   exact ⟨_, resE_tmp2 rfl, ⟨([]), 2, (.slice none 0 0), hr_, rfl, H⟩⟩
  replace hM := M.e_f hM c9z
  refine W.skip <| sQ rfl <| sM (.pointer none) rfl ?_
  exact (M.e_fail hM).elim
 replace hM := M.e_t hM (by simpa using he_)
 obtain ⟨Bs_2, H2_, hs3z, hb_b_1⟩ := H.freshNB hn_ hs3z
 replace H : St w w1z [cRo Bs_2] R := H2_
 clear H2_ hn_
 have hl_hs3z := hs3z.len_le
 refine sM (.tuple #[Pz b_1, u2z, I 0]) rfl <| sX [Pz b_1, u2z, I 0] (Pz b_1) rfl rfl <| sX [Pz b_1, u2z, I 0] u2z rfl rfl <| sX [Pz b_1, u2z, I 0] (I 0) rfl rfl <| sA (Pz b_1) rfl <| sA u2z rfl <| sA (I 0) rfl <| s_nil <| W.seq <| W.block <| sQ rfl ?_
 refine sM (I 0) rfl <| sC 0 0 ((0 : Int) != 0) rfl rfl rfl <| sA (B ((0 : Int) != 0)) rfl <| s_nil ?_
 refine W.cond ((0 : Int) != 0) rfl (fun c10z => ?_) (fun c10z => ?_)
 ·skip
  exact absurd c10z (by decide)
 skip
 replace hM := M.e_f hM c10z
 refine sQ rfl <| sM (I from_) rfl <| sM v_w_ rfl ?_
 have hl11z := (hs_w_).len_le
 refine s_val (x_lenS T22.und rfl hs_w_) <| sR (w_.length : Int) 1 ((w_.length : Int) - 1) rfl rfl rfl (by omega) ?_
 refine s_call cf84 [I from_, I 0, I ((w_.length : Int) - 1)] rfl (in_any from_ 0 ((w_.length : Int) - 1) _) ?_
 rintro _ w12z ⟨rfl, hx_⟩
 replace H : St w w12z [cRo Bs_2] R := H.ext hx_
 clear hx_
 refine s_val (x_not (b := inB from_ 0 ((w_.length : Int) - 1)) rfl) <| sM (B (!(inB from_ 0 ((w_.length : Int) - 1)))) rfl <| g_val (!(!(inB from_ 0 ((w_.length : Int) - 1)))) (gy_f rfl) (fun hg => x_mv (v := I to_) rfl) <| g_val (!(!(inB from_ 0 ((w_.length : Int) - 1)))) (gy_f rfl) (fun hg => x_mv (v := v_w_) rfl) <| g_val (!(!(inB from_ 0 ((w_.length : Int) - 1)))) (gy_f rfl) (fun hg => x_lenS T22.und (gd_of (c := !(!(inB from_ 0 ((w_.length : Int) - 1)))) hg (v_w_)) hs_w_) <| g_val (!(!(inB from_ 0 ((w_.length : Int) - 1)))) (gy_f rfl) (fun hg => x_ari (a := (w_.length : Int)) (b := 1) (r := (w_.length : Int) - 1) (gd_of (c := !(!(inB from_ 0 ((w_.length : Int) - 1)))) hg (I (w_.length : Int))) rfl rfl (by first | omega | (have hx_ := hg; simp at hx_; omega))) ?_
 refine t_gcall (!(!(inB from_ 0 ((w_.length : Int) - 1)))) (gy_f rfl) cf84 (B (inB to_ 0 ((w_.length : Int) - 1))) (fun _ => [I to_, I 0, I ((w_.length : Int) - 1)]) (fun hg => lst3 (gd_of (c := !(!(inB from_ 0 ((w_.length : Int) - 1)))) hg (I to_)) rfl (gd_of (c := !(!(inB from_ 0 ((w_.length : Int) - 1)))) hg (I ((w_.length : Int) - 1)))) H (fun hg => Ret.mono (in_any to_ 0 ((w_.length : Int) - 1) _) fun v_ w_ ⟨hv_, hx_⟩ => ⟨hv_, H.ext hx_⟩) ?_
 intro w14z H
 refine g_val (!(!(inB from_ 0 ((w_.length : Int) - 1)))) (gy_f rfl) (fun hg => x_not (b := inB to_ 0 ((w_.length : Int) - 1)) (gd_of (c := !(!(inB from_ 0 ((w_.length : Int) - 1)))) hg (B (inB to_ 0 ((w_.length : Int) - 1))))) <| s_val (x_por (b := !(inB from_ 0 ((w_.length : Int) - 1))) (r := !(inB to_ 0 ((w_.length : Int) - 1))) rfl rfl (fun hb => gd_of (c := !(!(inB from_ 0 ((w_.length : Int) - 1)))) (by first | exact hb | (rw [hb]; rfl) | simp_all) (B (!(inB to_ 0 ((w_.length : Int) - 1)))))) <| sA (B ((!(inB from_ 0 ((w_.length : Int) - 1))) || (!(inB to_ 0 ((w_.length : Int) - 1))))) rfl <| s_nil ?_
 refine W.cond ((!(inB from_ 0 ((w_.length : Int) - 1))) || (!(inB to_ 0 ((w_.length : Int) - 1)))) rfl (fun c15z => ?_) (fun c15z => ?_)
 ·replace hM := M.e_t hM c15z
  refine sQ rfl <| sA (.slice none 0 0) rfl <| sA (I 2) rfl <| s_nil ?_
  refine W.ret ?_
  have hr_ := M.e_pure hM
  replace H : St w w14z [cOwn (α := Int) 3 (.slice none 0 0) ([]), cRo Bs_2] R := H.nilOwn (α := Int) 3
  exact ⟨_, resE_tmp2 rfl, ⟨([]), 2, (.slice none 0 0), hr_, rfl, (H.pick [0] (by decide) rfl)⟩⟩
 replace hM := M.e_f hM c15z
 refine W.skip <| sQ rfl <| sM (Pz b_1) rfl ?_
 obtain ⟨r17z, hx16z, hM⟩ := M.e_bind hM
 refine s_call cf108 [Pz b_1, .func (.func 109) #[] #[]] rfl (notes_web_search_ok w_ (fun xqz => m_notes_Line_1 xqz) (hC_w_.app _) hs_w_ (Has.ro (k := 0) rfl hb_b_1) ⟨109, [], rfl, cf109, fun wqz Lqz Cqz vqz xqz bqz hsqz hCqz hAqz hpqz => by obtain rfl := Arg.int hAqz; exact (notes_Line_1_ok xqz hpqz wqz (St.refl hsqz)).mono fun vqz wqz ⟨yqz, hrqz, hvqz, Hqz⟩ => by subst hrqz; exact ⟨hvqz, Hqz⟩⟩ hx16z _ (St.give (T := [cRo Bs_2]) H rfl)) ?_
 rintro vq w18z ⟨r2, nb0_3, nb1_4, hr19z, hvq, H2_⟩
 subst hr19z
 subst vq
 try dsimp only at hM
 replace H : St w w18z [cBlk nb0_3 [Pz b_1, .func (.func 109) #[] #[], .map (some nb1_4)] 211, cMap I B nb1_4 r2, cRo Bs_2] R := H.back H2_ rfl
 clear H2_
 refine sA (Pz nb0_3) rfl <| s_nil <| W.seq <| sQ rfl <| sM (Pz nb0_3) rfl <| sM (I from_) rfl <| sM (I to_) rfl ?_
 obtain ⟨r21z, hx20z, hM⟩ := M.e_bind hM
 refine s_call cf110 [Pz nb0_3, I from_, I to_] rfl (notes_search_line_ok w_ (fun xqz => m_notes_Line_1 xqz) r2 from_ to_ (hC_w_.app _) hs_w_ (Has.ro (k := 1) rfl hb_b_1) ⟨109, [], rfl, cf109, fun wqz Lqz Cqz vqz xqz bqz hsqz hCqz hAqz hpqz => by obtain rfl := Arg.int hAqz; exact (notes_Line_1_ok xqz hpqz wqz (St.refl hsqz)).mono fun vqz wqz ⟨yqz, hrqz, hvqz, Hqz⟩ => by subst hrqz; exact ⟨hvqz, Hqz⟩⟩ (Has.here (k := 0) rfl) hx20z _ (St.give (L := [cMap I B nb1_4 r2, cBlk nb0_3 [Pz b_1, .func (.func 109) #[] #[], .map (some nb1_4)] 211, cRo Bs_2]) (A := [cMap I B nb1_4 r2]) (T := [cBlk nb0_3 [Pz b_1, .func (.func 109) #[] #[], .map (some nb1_4)] 211, cRo Bs_2]) (H.pick [1, 0, 2] (by decide) rfl) rfl)) ?_
 rintro vq w22z ⟨r3, q_b_s_met, u0_5, hr23z, hvq, H2_, hf24z⟩
 subst hr23z
 subst vq
 try dsimp only at hM
 replace H : St w w22z [cOwn (α := Int) 3 u0_5 r3, cMap I B nb1_4 q_b_s_met, cBlk nb0_3 [Pz b_1, .func (.func 109) #[] #[], .map (some nb1_4)] 211, cRo Bs_2] R := H.pick [1, 0, 2] (by decide) rfl |>.back H2_ rfl
 clear H2_
 refine sA u0_5 rfl <| s_nil <| sQ rfl <| sM u0_5 rfl <| s_val (x_nenil (α := Int) T34.und rfl rfl (ownSl (H.get (k := 0) rfl)) hf24z) <| s_nil ?_
 refine W.cond (!r3.isEmpty) rfl (fun c25z => ?_) (fun c25z => ?_)
 ·replace hM := M.e_t hM c25z
  refine sQ rfl <| sM u0_5 rfl <| sA u0_5 rfl <| sA (I 0) rfl <| s_nil ?_
  refine W.ret ?_
  have hr_ := M.e_pure hM
  exact ⟨_, resE_tmp2 rfl, ⟨r3, 0, u0_5, hr_, rfl, (H.pick [0] (by decide) rfl)⟩⟩
 replace hM := M.e_f hM c25z
 refine W.skip <| sQ rfl <| sA (.slice none 0 0) rfl <| sA (I 5) rfl <| s_nil ?_
 refine W.ret ?_
 have hr_ := M.e_pure hM
 replace H : St w w22z [cOwn (α := Int) 3 (.slice none 0 0) ([]), cOwn (α := Int) 3 u0_5 r3, cMap I B nb1_4 q_b_s_met, cBlk nb0_3 [Pz b_1, .func (.func 109) #[] #[], .map (some nb1_4)] 211, cRo Bs_2] R := H.nilOwn (α := Int) 3
 exact ⟨_, resE_tmp2 rfl, ⟨([]), 5, (.slice none 0 0), hr_, rfl, (H.pick [0] (by decide) rfl)⟩⟩

end Go.Proofs.Ytndobgodeicloaa
end
namespace Go.Nm
open Go
section
variable {P : Program} {w : World} {σ : Env} {d : Nat} {ty : TypeId} {pos : String} {af : Array Edge} {g : Option (Nat × Bool)}
theorem x_eqnilp {α : Type} [Elt α] {t e yt : TypeId} {x y : Operand} {C : Cells} {v : Value} {l : List α} (ht : P.underlying t = some (.slice e)) (hx : ev σ x = v) (hy : ev σ y = .slice none 0 0) (h : Sl C v l) (hn : 0 < l.length) :
    (execOp (ev σ) ⟨some d, .binOp .eql t x y yt, ty, pos, af, g⟩).run P w = .ok (.value (.bool false)) w := by
  have := x_eqnil (P := P) (w := w) (σ := σ) (d := d) (ty := ty) (pos := pos) (af := af) (g := g) (yt := yt) ht hx hy h (fun e => by subst e; cases hn)
  cases l with
  | nil => cases hn
  | cons x l => exact this
end
section
variable {P : Program} {all rest : List Oper} {Q : Post} {σ : Env} {w0 w : World} {L L' R : List Chunk} {d : Nat} {ty : TypeId} {pos : String} {af : Array Edge} {g : Option (Nat × Bool)}
theorem t_bs0 {α : Type} [Flat α] {t e by' : Nat} {z : Value} (T : SlT P t e (Elt.sz α) by' z) (H : St w0 w L R)
    (k : ∀ u w', St w0 w' (cOwn e u ([] : List α) :: L) R → SL P all Q rest (upd σ d u) w') : SL P all Q (⟨some d, .buildSlice t 0 #[], ty, pos, af, none⟩ :: rest) σ w := by
  obtain ⟨i, hi, hz, hisz, hby⟩ := T.parts
  refine s_any (v := .slice (some ⟨w.heap.size, 0, none⟩) 0 0) (w' := w.alloc (.cells #[] e)) ?_ (k _ _ (H.push (.allocCells ..) ?_ ?_))
  · simp [execOp, Instr.buildSlice, run_underlying T.und, sizeOf, typeInfo, zeroValue, hi, hz, newRow, Instr.fill]
    exact congrArg (fun c => w.alloc (Obj.cells c e)) (by simp)
  · refine ⟨by simp, .inr ⟨w.heap.size, 0, #[], by simp, Nat.zero_le _, heap_alloc_new w _, Nat.le_refl _, by simp [maxLen], by simp, by simp⟩⟩
  · intro b hb
    simp only [cOwn, Value.ownBlock, Option.some.injEq] at hb
    omega
end
section
variable {r : Option Nat} {P : Program} {n : Nat} {Q : Post} {σ : Env} {w : World}
end
end Go.Nm
section
set_option maxRecDepth 100000
set_option maxHeartbeats 16000000
namespace Go.Proofs.Ytndobgodeicloaa
open Go Go.Nm
def m_notes_Check (w_ : List Work) : M Int :=
  bif (openedE w_ == 0) then (
  M.pure 0)
  else (
  M.pure (openedE w_))
theorem notes_Check_ok {R : List Chunk} {C_w_ : Cells} {v_w_ : Value} (w_ : List Work) (hC_w_ : Reads R C_w_) (hs_w_ : Sl C_w_ v_w_ w_) {r : Int} (hM : (m_notes_Check w_).Ends r) (w : World) (H : St w w [] R) : Ret Try.prog 68 #[v_w_] w fun v w' => ∃ (y0 : Int), y0 = r ∧ v = I y0 ∧ St w w' [] R := by
 refine ret_of_W Try.func68 rfl rfl rfl ?_
 refine sQ rfl <| sA (I 0) rfl <| s_nil <| sQ rfl <| sM v_w_ rfl ?_
 refine s_call cf81 [v_w_] rfl (opened_any _ (hs_w_.mono (hC_w_.at H))) ?_
 rintro _ w1z (⟨he_, rfl, hx_⟩ | ⟨he_, b_1, u2z, rfl, hn_, hs3z⟩)
 ·replace hM := M.e_f hM (by simpa using he_)
  replace H : St w w1z [] R := H.ext hx_
  clear hx_
  refine sM (.tuple #[.pointer none, .slice none 0 0, I (openedE w_)]) rfl <| sX [.pointer none, .slice none 0 0, I (openedE w_)] (.pointer none) rfl rfl <| sX [.pointer none, .slice none 0 0, I (openedE w_)] (.slice none 0 0) rfl rfl <| sX [.pointer none, .slice none 0 0, I (openedE w_)] (I (openedE w_)) rfl rfl <| sA (.pointer none) rfl <| sA (.slice none 0 0) rfl <| sA (I (openedE w_)) rfl <| s_nil <| sQ rfl <| sM (I (openedE w_)) rfl <| sA (I (openedE w_)) rfl ?_
  refine s_nil ?_
  refine W.ret ?_
  have hr_ := M.e_pure hM
  exact ⟨_, resE_tmp rfl, ⟨(openedE w_), hr_, rfl, H⟩⟩
 replace hM := M.e_t hM (by simpa using he_)
 obtain ⟨Bs_2, H2_, hs3z, hb_b_1⟩ := H.freshNB hn_ hs3z
 replace H : St w w1z [cRo Bs_2] R := H2_
 clear H2_ hn_
 have hl_hs3z := hs3z.len_le
 refine sM (.tuple #[Pz b_1, u2z, I 0]) rfl <| sX [Pz b_1, u2z, I 0] (Pz b_1) rfl rfl <| sX [Pz b_1, u2z, I 0] u2z rfl rfl <| sX [Pz b_1, u2z, I 0] (I 0) rfl rfl <| sA (Pz b_1) rfl <| sA u2z rfl <| sA (I 0) rfl <| s_nil <| sQ rfl <| sM (I 0) rfl <| sA (I 0) rfl ?_
 refine s_nil ?_
 refine W.ret ?_
 have hr_ := M.e_pure hM
 exact ⟨_, resE_tmp rfl, ⟨0, hr_, rfl, (H.pick [] (by decide) rfl)⟩⟩

def m_notes_web_order_1 (i : Int) (k02 : List Int) : M Bool :=
  M.pure (k02.contains i)
theorem notes_web_order_1_ok {R : List Chunk} {b_k0 : Nat} {C_k02 : Cells} {v_k02 : Value} (i : Int) (k02 : List Int) (hC_k02 : Reads R C_k02) (hs_k02 : Sl C_k02 v_k02 k02) (h_b_k0 : Has R (cBlk b_k0 [v_k02] 34)) {r : Bool} (hM : (m_notes_web_order_1 i k02).Ends r) (w : World) (H : St w w [] R) : Ret Try.prog 164 #[I i, Pz b_k0] w fun v w' => ∃ (y0 : Bool), y0 = r ∧ v = B y0 ∧ St w w' [] R := by
 refine ret_of_W Try.func164 rfl rfl rfl ?_
 refine sQ rfl <| sA (B false) rfl <| s_nil <| sQ rfl <| s_val (x_ld (p := Pz b_k0) (v := v_k02) rfl (ldb_sc Sc34 (h_b_k0.blk H) rfl)) <| sM (I i) rfl ?_
 refine s_call cf45 [v_k02, I i] rfl (contains_int i _ (hs_k02.mono (hC_k02.at H))) ?_
 rintro _ w1z ⟨rfl, hx_⟩
 replace H : St w w1z [] R := H.ext hx_
 clear hx_
 refine sA (B (k02.contains i)) rfl <| s_nil ?_
 refine W.ret ?_
 have hr_ := M.e_pure hM
 exact ⟨_, resE_tmp rfl, ⟨(k02.contains i), hr_, rfl, H⟩⟩

def m_notes_web_order_b0 (w__list_works : List Work) : (Int × (List Int)) → M ((Int × (List Int)) ⊕ ((List Int) × (List Int))) := fun (i, l) =>
  bif decide (i < (w__list_works.length : Int)) then (
  M.bind (m_notes_web_order_1 i l) fun r2 =>
  M.grd ((!(!r2) || (decide ((0 : Int) ≤ i) && decide (i < (w__list_works.length : Int))))) <|
  M.bind (M.opt (!r2) (m_notes_every_int (fun xqz => m_notes_web_order_1 xqz l) ((w__list_works.getD (Int.toNat i) default).of)) false) fun r3 =>
  bif ((!r2) && r3) then (
  M.grd (decide ((l.length + ([(i : Int)]).length) * 8 ≤ 140737488355328)) <|
  M.grd (decide ((-9223372036854775808 : Int) ≤ ((-1) + 1)) && decide (((-1) + 1) ≤ (9223372036854775807 : Int))) <|
  M.pure (.inl ((-1) + 1, l ++ ([(i : Int)]))))
  else (
  M.grd (decide ((-9223372036854775808 : Int) ≤ (i + 1)) && decide ((i + 1) ≤ (9223372036854775807 : Int))) <|
  M.pure (.inl (i + 1, l))))
  else (
  M.pure (.inr (l, l)))
def m_notes_web_order (w__list_works : List Work) : M (List Int) :=
  M.bind (M.iter (m_notes_web_order_b0 w__list_works) (0, [])) fun (l2, l3) =>
  M.pure l3
theorem notes_web_order_ok {R : List Chunk} {b_w_ : Nat} {C_w__list_works : Cells} {v_w__list_works : Value} (w__list_works : List Work) (hC_w__list_works : Reads R C_w__list_works) (hs_w__list_works : Sl C_w__list_works v_w__list_works w__list_works) (h_b_w_ : Has R (cBlk b_w_ [v_w__list_works] 187)) {r : (List Int)} (hM : (m_notes_web_order w__list_works).Ends r) (w : World) (H : St w w [] R) : Ret Try.prog 131 #[Pz b_w_] w fun v w' => ∃ (y0 : List Int) (u0 : Value), y0 = r ∧ v = u0 ∧ St w w' [cOwn (α := Int) 3 u0 y0] R := by
 refine ret_of_W Try.func131 rfl rfl rfl ?_
 refine sQ rfl <| sA (.slice none 0 0) rfl <| s_nil <| sQ rfl ?_
 refine t_alloc (cs := [.slice none 0 0]) H Al34 rfl ?_
 intro b_1 w1z H
 refine s_nil <| sQ rfl <| s_val (x_mf (fs := []) (cs := [Pz b_1]) rfl rfl) <| sA (.func (.func 164) #[] #[Pz b_1]) rfl <| s_nil <| W.seq <| sQ rfl <| sA (I 0) rfl <| s_nil <| W.block ?_
 replace H : St w w1z [cOwn (α := Int) 3 (.slice none 0 0) ([]), cBlk b_1 [.slice none 0 0] 34] R := H.nilOwn (α := Int) 3
 obtain ⟨ex2z, hi3z, hk4z⟩ := M.e_bind hM
 obtain ⟨m0_, hi3z⟩ := M.e_iter hi3z
 refine W.loop (fun m σ W => ∃ (i : Int) (l : List Int) (v_l : Value) (ρ : Env), σ = upds ρ [(0, Pz b_w_), (3, Pz b_1), (4, .func (.func 164) #[] #[Pz b_1]), (5, I i)] ∧ M.iterN (m_notes_web_order_b0 w__list_works) m (i, l) = some ex2z ∧ St w W [cOwn (α := Int) 3 v_l l, cBlk b_1 [v_l] 34] R) ?_ ?_
 ·exact ⟨_, 0, [], (.slice none 0 0), _, upds_of _ _ ⟨rfl, rfl, rfl, rfl, trivial⟩, hi3z, H⟩
 rintro m7z σ w5z ⟨i, l, v_l, ρ, rfl, hI6z, H⟩
 obtain ⟨m8z, lt9z, x10z, hM, hN11z⟩ := M.e_iterN hI6z
 simp only [m_notes_web_order_b0] at hM
 clear hI6z
 refine W.seq <| sQ rfl <| sM (I i) rfl <| sM (Pz b_w_) rfl <| s_val (x_nc (a := ⟨b_w_, 0, none⟩) rfl) <| s_val (x_fa (a := Pz b_w_) (v := Pz b_w_) rfl (fa_blk (o := 0) Fd187_0 Sz185)) <| s_val (x_fa (a := Pz b_w_) (v := Pz b_w_) rfl (fa_blk (o := 0) Fd185_0 Sz22)) <| s_val (x_ld (p := Pz b_w_) (v := v_w__list_works) rfl (ldb_sc Sc22 (h_b_w_.blk H) rfl)) ?_
 have hl12z := (hs_w__list_works).len_le
 refine s_val (x_lenS T22.und rfl hs_w__list_works) <| sC i (w__list_works.length : Int) (decide (i < (w__list_works.length : Int))) rfl rfl rfl <| s_nil ?_
 refine W.cond (decide (i < (w__list_works.length : Int))) rfl (fun c13z => ?_) (fun c13z => ?_)
 ·replace hM := M.e_t hM c13z
  simp only [qz1, qz2, qz3, qz4, qz5, qz6, ne_eq, qz7] at c13z
  refine W.skip <| W.seq <| W.block <| sQ rfl <| sM (.func (.func 164) #[] #[Pz b_1]) rfl <| sM (I i) rfl ?_
  obtain ⟨r15z, hx14z, hM⟩ := M.e_bind hM
  refine s_callv (f := 164) rfl cf164 [I i] rfl (notes_web_order_1_ok i l (Reads.of (k := 0) rfl ownLe) (ownSl (H.get (k := 0) rfl)) (Has.here (k := 1) rfl) hx14z _ (St.give (T := [cOwn (α := Int) 3 v_l l, cBlk b_1 [v_l] 34]) H rfl)) ?_
  rintro vq w16z ⟨r2, hr17z, hvq, H2_⟩
  subst hr17z
  subst vq
  try dsimp only at hM
  replace H : St w w16z [cOwn (α := Int) 3 v_l l, cBlk b_1 [v_l] 34] R := H.back H2_ rfl
  clear H2_
  refine s_val (x_not (b := r2) rfl) <| sM (B (!r2)) rfl <| g_val (!r2) (gy_t rfl) (fun hg => x_mv (v := .func (.func 164) #[] #[Pz b_1]) rfl) <| g_val (!r2) (gy_t rfl) (fun hg => x_mv (v := Pz b_w_) rfl) <| g_val (!r2) (gy_t rfl) (fun hg => x_nc (a := ⟨b_w_, 0, none⟩) (gd_of (c := !r2) hg (Pz b_w_))) <| g_val (!r2) (gy_t rfl) (fun hg => x_fa (a := Pz b_w_) (v := Pz b_w_) (gd_of (c := !r2) hg (Pz b_w_)) (fa_blk (o := 0) Fd187_0 Sz185)) <| g_val (!r2) (gy_t rfl) (fun hg => x_fa (a := Pz b_w_) (v := Pz b_w_) (gd_of (c := !r2) hg (Pz b_w_)) (fa_blk (o := 0) Fd185_0 Sz22)) <| g_val (!r2) (gy_t rfl) (fun hg => x_ld (p := Pz b_w_) (v := v_w__list_works) (gd_of (c := !r2) hg (Pz b_w_)) (ldb_sc Sc22 (h_b_w_.blk H) rfl)) <| g_val (!r2) (gy_t rfl) (fun hg => x_mv (v := I i) rfl) ?_
  obtain ⟨sd18z, hM⟩ := M.e_grd hM
  replace sd18z := M.imp_of sd18z
  simp only [Bool.and_eq_true, decide_eq_true_eq] at sd18z
  refine g_val (!r2) (gy_t rfl) (fun hg => x_ix (a := v_w__list_works) (b := I i) (v := vat v_w__list_works 3 (Int.toNat i)) (gd_of (c := !r2) hg (v_w__list_works)) (gd_of (c := !r2) hg (I i)) (Sl.ix (α := Work) T22.und T22.size hs_w__list_works (by have h1_ := sd18z.resolve_left (by rw [hg]; decide); first | exact h1_ | exact h1_.1 | exact h1_.2 | omega | (have hx_ := hg; simp at hx_; omega)) (by have h1_ := sd18z.resolve_left (by rw [hg]; decide); first | exact h1_ | exact h1_.1 | exact h1_.2 | omega | (have hx_ := hg; simp at hx_; omega)))) <| g_val (!r2) (gy_t rfl) (fun hg => x_fa (a := vat v_w__list_works 3 (Int.toNat i)) (v := fat (vat v_w__list_works 3 (Int.toNat i)) 0) (gd_of (c := !r2) hg (vat v_w__list_works 3 (Int.toNat i))) (fa_pl Fd60_0 Sz34 (Sl.pl (i := i) hs_w__list_works (by have h1_ := sd18z.resolve_left (by rw [hg]; decide); first | exact h1_ | exact h1_.1 | exact h1_.2 | omega | (have hx_ := hg; simp at hx_; omega)) (by have h1_ := sd18z.resolve_left (by rw [hg]; decide); first | exact h1_ | exact h1_.1 | exact h1_.2 | omega | (have hx_ := hg; simp at hx_; omega))))) ?_
  obtain ⟨u19z, ha_u19z, hs20z⟩ := gd_ex (c := !r2) fun hg => Work_at0 hs_w__list_works (i := i) (by have h1_ := sd18z.resolve_left (by rw [hg]; decide); first | exact h1_ | exact h1_.1 | exact h1_.2 | omega | (have hx_ := hg; simp at hx_; omega)) (by have h1_ := sd18z.resolve_left (by rw [hg]; decide); first | exact h1_ | exact h1_.1 | exact h1_.2 | omega | (have hx_ := hg; simp at hx_; omega))
  replace hs20z : (!r2) = true → Sl _ u19z (w__list_works.getD (Int.toNat i) default).of := hs20z
  refine g_val (!r2) (gy_t rfl) (fun hg => x_ld (p := fat (vat v_w__list_works 3 (Int.toNat i)) 0) (v := u19z) (gd_of (c := !r2) hg (fat (vat v_w__list_works 3 (Int.toNat i)) 0)) (ld_sc Sc34 (At.mono (ha_u19z hg) (hC_w__list_works.at H)))) ?_
  obtain ⟨r3, hx21z, hM⟩ := M.e_bind hM
  refine t_gcall (!r2) (gy_t rfl) cf87 (B r3) (fun _ => [.func (.func 164) #[] #[Pz b_1], u19z]) (fun hg => lst2 (gd_of (c := !r2) hg (.func (.func 164) #[] #[Pz b_1])) (gd_of (c := !r2) hg (u19z))) H (fun hg => (notes_every_int_ok (fun xqz => m_notes_web_order_1 xqz l) ((w__list_works.getD (Int.toNat i) default).of) ⟨164, [Pz b_1], rfl, cf164, fun wqz Lqz Cqz vqz xqz bqz hsqz hCqz hAqz hpqz => by obtain rfl := Arg.int hAqz; exact (notes_web_order_1_ok xqz l (Reads.app (Reads.of (k := 0) rfl ownLe) _) (ownSl (H.get (k := 0) rfl)) (Has.app (Has.here (k := 1) rfl) _) hpqz wqz (St.refl hsqz)).mono fun vqz wqz ⟨yqz, hrqz, hvqz, Hqz⟩ => by subst hrqz; exact ⟨hvqz, Hqz⟩⟩ (hC_w__list_works.app _) (hs20z hg) (M.e_opt hx21z hg) _ (H.give (A := []) rfl)).mono fun v_ w_ ⟨y_, hr_, hv_, H_⟩ => by subst hr_; exact ⟨hv_, H.via H_⟩) ?_
  intro w22z H
  refine s_val (x_pand (b := !r2) (r := r3) rfl (fun hb => gd_of (c := !r2) (by first | exact hb | (rw [hb]; rfl) | simp_all) (B r3)) rfl) <| s_nil ?_
  refine W.cond ((!r2) && r3) rfl (fun c23z => ?_) (fun c23z => ?_)
  ·replace hM := M.e_t hM c23z
   refine sQ rfl <| s_val (x_ld (p := Pz b_1) (v := v_l) rfl (ldb_sc Sc34 (H.blk (k := 1) rfl) rfl)) <| sM (I i) rfl ?_
   refine t_bs (α := Int) T34 [I i] [(i : Int)] H rfl (.cons rfl (Flat.rep_enc _ (i : Int)) <| .nil) rfl rfl rfl ?_
   intro v24z w25z H
   obtain ⟨sd26z, hM⟩ := M.e_gd hM
   refine t_app (α := Int) (k := 1) (l := l) (l2 := [(i : Int)]) (l' := l ++ ([(i : Int)])) (vy := v24z) T34 rfl H rfl rfl rfl (ownSl (H.get (k := 0) rfl)) (ownLe _ (H.get (k := 0) rfl)) (rfl) (by first | omega | (simp only [List.length_nil] at *; omega)) ?_
   intro v27z w28z H
   replace H : St w w28z [cOwn (α := Int) 3 v24z ([(i : Int)]), cOwn (α := Int) 3 v27z (l ++ ([(i : Int)])), cBlk b_1 [v_l] 34] R := H
   refine t_st (k := 2) (b := b_1) (off := 0) (cs := [v_l]) (vs := [v27z]) (cs' := [v27z]) (v := v27z) (L' := [cOwn (α := Int) 3 v24z ([(i : Int)]), cOwn (α := Int) 3 v27z (l ++ ([(i : Int)])), cBlk b_1 [v27z] 34]) H rfl rfl rfl Sz34 (Sl.cells (ownSl (H.get (k := 1) rfl))) rfl rfl (by simp only [List.all_cons, List.all_nil, Bool.true_and, Bool.and_true, Sl.oc (ownSl (H.get (k := 1) rfl))]; try rfl) rfl rfl ?_
   intro w29z H
   refine s_nil <| W.region rfl <| sA (I (-1)) rfl <| s_nil <| W.region rfl <| sM (I (-1)) rfl ?_
   obtain ⟨sd30z, hM⟩ := M.e_gd hM
   refine sR (-1) 1 ((-1) + 1) rfl rfl rfl (by omega) <| sA (I ((-1) + 1)) rfl <| s_nil ?_
   exact ⟨m8z, lt9z, (-1) + 1, l ++ ([(i : Int)]), v27z, _, upds_of _ _ ⟨rfl, rfl, rfl, rfl, trivial⟩, M.e_inl hM hN11z, (H.pick [1, 2] (by decide) rfl)⟩
  replace hM := M.e_f hM c23z
  refine W.skip <| W.region rfl <| sM (I i) rfl ?_
  obtain ⟨sd31z, hM⟩ := M.e_gd hM
  refine sR i 1 (i + 1) rfl rfl rfl (by omega) <| sA (I (i + 1)) rfl <| s_nil ?_
  exact ⟨m8z, lt9z, i + 1, l, v_l, _, upds_of _ _ ⟨rfl, rfl, rfl, rfl, trivial⟩, M.e_inl hM hN11z, H⟩
 replace hM := M.e_f hM c13z
 simp only [qz1, qz2, qz3, qz4, qz5, qz6, ne_eq, qz7] at c13z
 refine W.exit ?_
 have hX32z := M.e_inr hM hN11z
 subst hX32z
 replace hM := hk4z
 try dsimp only at hM
 refine sQ rfl <| s_val (x_ld (p := Pz b_1) (v := v_l) rfl (ldb_sc Sc34 (H.blk (k := 1) rfl) rfl)) <| sA v_l rfl <| s_nil ?_
 refine W.ret ?_
 have hr_ := M.e_pure hM
 exact ⟨_, resE_tmp rfl, ⟨l, v_l, hr_, rfl, (H.pick [0] (by decide) rfl)⟩⟩

def m_slices_Clone_int (s : List Int) : M (List Int) :=
  M.grd (decide (0 < s.length)) <|
  M.grd (decide ((([] : List Int).length + s.length) * 8 ≤ 140737488355328)) <|
  M.pure s
theorem slices_Clone_int_ok {R : List Chunk} {C_s : Cells} {v_s : Value} (s : List Int) (hC_s : Reads R C_s) (hs_s : Sl C_s v_s s) {r : (List Int)} (hM : (m_slices_Clone_int s).Ends r) (w : World) (H : St w w [] R) : Ret Try.prog 133 #[v_s] w fun v w' => ∃ (y0 : List Int) (u0 : Value), y0 = r ∧ v = u0 ∧ St w w' [cOwn (α := Int) 3 u0 y0] R := by
 refine ret_of_W Try.func133 rfl rfl rfl ?_
 refine sQ rfl <| sA (.slice none 0 0) rfl <| s_nil <| W.seq <| sQ rfl <| sM v_s rfl ?_
 obtain ⟨sd1z, hM⟩ := M.e_gd hM
 refine s_val (x_eqnilp (α := Int) T34.und rfl rfl hs_s (by omega)) <| s_nil ?_
 refine W.cond false rfl (fun c2z => ?_) (fun c2z => ?_)
 ·skip
  exact absurd c2z (by decide)
 skip
 refine W.skip <| sQ rfl ?_
 refine t_bs0 (α := Int) T34 H ?_
 intro v3z w4z H
 refine sM v_s rfl ?_
 obtain ⟨sd5z, hM⟩ := M.e_gd hM
 refine t_app (α := Int) (k := 0) (l := []) (l2 := s) (l' := s) (vy := v_s) T34 rfl H rfl rfl rfl hs_s (hC_s.at H) (List.nil_append _) (by first | omega | (simp only [List.length_nil] at *; omega)) ?_
 intro v6z w7z H
 replace H : St w w7z [cOwn (α := Int) 3 v6z s] R := H
 refine sA v6z rfl <| s_nil ?_
 refine W.ret ?_
 have hr_ := M.e_pure hM
 exact ⟨_, resE_tmp rfl, ⟨s, v6z, hr_, rfl, H⟩⟩

def m_notes_Circle_1_1 (k : Int) (k02 : List Int) : M Bool :=
  M.pure (!(k02.contains k))
theorem notes_Circle_1_1_ok {R : List Chunk} {b_k0 : Nat} {C_k02 : Cells} {v_k02 : Value} (k : Int) (k02 : List Int) (hC_k02 : Reads R C_k02) (hs_k02 : Sl C_k02 v_k02 k02) (h_b_k0 : Has R (cBlk b_k0 [v_k02] 34)) {r : Bool} (hM : (m_notes_Circle_1_1 k k02).Ends r) (w : World) (H : St w w [] R) : Ret Try.prog 134 #[I k, Pz b_k0] w fun v w' => ∃ (y0 : Bool), y0 = r ∧ v = B y0 ∧ St w w' [] R := by
 refine ret_of_W Try.func134 rfl rfl rfl ?_
 refine sQ rfl <| sA (B false) rfl <| s_nil <| sQ rfl <| s_val (x_ld (p := Pz b_k0) (v := v_k02) rfl (ldb_sc Sc34 (h_b_k0.blk H) rfl)) <| sM (I k) rfl ?_
 refine s_call cf45 [v_k02, I k] rfl (contains_int k _ (hs_k02.mono (hC_k02.at H))) ?_
 rintro _ w1z ⟨rfl, hx_⟩
 replace H : St w w1z [] R := H.ext hx_
 clear hx_
 refine s_val (x_not (b := k02.contains k) rfl) <| sA (B (!(k02.contains k))) rfl <| s_nil ?_
 refine W.ret ?_
 have hr_ := M.e_pure hM
 exact ⟨_, resE_tmp rfl, ⟨(!(k02.contains k)), hr_, rfl, H⟩⟩

def m_notes_Circle_1_F (self_ : (Int × (List Int) × (List Work) × (List Int)) → M ((List Int) × (List Int))) : (Int × (List Int) × (List Work) × (List Int)) → M ((List Int) × (List Int)) := fun (i, k02, k12, k22) =>
  bif (idxI k02 i) != (-1) then (
  M.grd (decide ((0 : Int) ≤ (idxI k02 i)) && decide ((idxI k02 i) ≤ (k02.length : Int))) <|
  M.bind (m_slices_Clone_int (k02.drop (Int.toNat (idxI k02 i)))) fun r2 =>
  M.pure (r2, k02))
  else (
  M.grd (decide ((k02.length + ([(i : Int)]).length) * 8 ≤ 140737488355328)) <|
  M.grd (decide ((0 : Int) ≤ i) && decide (i < (k12.length : Int))) <|
  M.bind (m_slices_IndexFunc_int ((k12.getD (Int.toNat i) default).of) (fun xqz => m_notes_Circle_1_1 xqz k22)) fun r3 =>
  M.grd (decide ((0 : Int) ≤ r3) && decide (r3 < (((k12.getD (Int.toNat i) default).of).length : Int))) <|
  M.bind (self_ ((((k12.getD (Int.toNat i) default).of).getD (Int.toNat r3) 0), (k02 ++ ([(i : Int)])), k12, k22)) fun (r4, l_k02) =>
  M.pure (r4, l_k02))
theorem m_notes_Circle_1_mon : M.Mon m_notes_Circle_1_F := by
  intro n f g h a
  obtain ⟨i, k02, k12, k22⟩ := a
  simp only [m_notes_Circle_1_F]
  repeat' (first | exact M.le_same _ _ | exact h _ | refine M.le_grd ?_ | refine M.le_if ?_ ?_ | refine M.le_bind ?_ (fun x => ?_) | refine M.le_opt ?_ | refine M.le_iter (fun x => ?_) _ | refine m_notes_web_made_1_le (M.le_yl (fun s_ a_ => ?_)) _ _ _ | (rename_i x; cases x) | (rename_i x; obtain ⟨_, _⟩ := x))
def m_notes_Circle_1 (i : Int) (k02 : List Int) (k12 : List Work) (k22 : List Int) : M ((List Int) × (List Int)) := M.fix m_notes_Circle_1_F m_notes_Circle_1_mon (i, k02, k12, k22)
theorem notes_Circle_1_okN (n_ : Nat) : ∀ {R : List Chunk} {b_k0 : Nat} {v_k02 : Value} {b_k1 : Nat} {C_k12 : Cells} {v_k12 : Value} {b_k2 : Nat} {C_k22 : Cells} {v_k22 : Value} {b_k3 : Nat} (i : Int) (k02 : List Int) (k12 : List Work) (k22 : List Int) (hC_k12 : Reads R C_k12) (hs_k12 : Sl C_k12 v_k12 k12) (h_b_k1 : Has R (cBlk b_k1 [v_k12] 22)) (hC_k22 : Reads R C_k22) (hs_k22 : Sl C_k22 v_k22 k22) (h_b_k2 : Has R (cBlk b_k2 [v_k22] 34)) (h_b_k3 : Has R (cBlk b_k3 [.func (.func 132) #[] #[Pz b_k0, Pz b_k1, Pz b_k2, Pz b_k3]] 189)) {r : ((List Int) × (List Int))} (hM : (M.fixN m_notes_Circle_1_F n_ (i, k02, k12, k22)).Ends r) (w : World) (H : St w w [cOwn (α := Int) 3 v_k02 k02, cBlk b_k0 [v_k02] 34] R), Ret Try.prog 132 #[I i, Pz b_k0, Pz b_k1, Pz b_k2, Pz b_k3] w fun v w' => ∃ (y0 : List Int) (y1 : List Int) (u0 : Value) (u1 : Value), (y0, y1) = r ∧ v = u0 ∧ St w w' [cOwn (α := Int) 3 u0 y0, cOwn (α := Int) 3 u1 y1, cBlk b_k0 [u1] 34] R := by
  induction n_ with
  | zero => intro R b_k0 v_k02 b_k1 C_k12 v_k12 b_k2 C_k22 v_k22 b_k3 i k02 k12 k22 hC_k12 hs_k12 h_b_k1 hC_k22 hs_k22 h_b_k2 h_b_k3 r hM w H; exact (M.e_fail hM).elim
  | succ n_ ih =>
    intro R b_k0 v_k02 b_k1 C_k12 v_k12 b_k2 C_k22 v_k22 b_k3 i k02 k12 k22 hC_k12 hs_k12 h_b_k1 hC_k22 hs_k22 h_b_k2 h_b_k3 r hM w H
    refine ret_of_W Try.func132 rfl rfl rfl ?_
    refine sQ rfl <| sA (.slice none 0 0) rfl <| s_nil <| W.seq <| sQ rfl <| s_val (x_ld (p := Pz b_k0) (v := v_k02) rfl (ldb_sc Sc34 (H.blk (k := 1) rfl) rfl)) <| sM (I i) rfl ?_
    refine s_call cf100 [v_k02, I i] rfl (index_int i _ ((ownSl (H.get (k := 0) rfl)).mono (ownLe _ (H.get (k := 0) rfl)))) ?_
    rintro _ w1z ⟨rfl, hx_⟩
    replace H : St w w1z [cOwn (α := Int) 3 v_k02 k02, cBlk b_k0 [v_k02] 34] R := H.ext hx_
    clear hx_
    refine sA (I (idxI k02 i)) rfl <| s_nil <| sQ rfl <| sM (I (idxI k02 i)) rfl <| sC (idxI k02 i) (-1) ((idxI k02 i) != (-1)) rfl rfl rfl <| s_nil ?_
    refine W.cond ((idxI k02 i) != (-1)) rfl (fun c2z => ?_) (fun c2z => ?_)
    ·replace hM := M.e_t hM c2z
     simp only [qz1, qz2, qz3, qz4, qz5, qz6, ne_eq, qz7] at c2z
     refine sQ rfl <| s_val (x_ld (p := Pz b_k0) (v := v_k02) rfl (ldb_sc Sc34 (H.blk (k := 1) rfl) rfl)) <| sM (I (idxI k02 i)) rfl ?_
     obtain ⟨sd5z, hM⟩ := M.e_gd hM
     obtain ⟨u3z, hr_u3z, hs4z⟩ := sl_lo T34.und T34.size (ownSl (H.get (k := 0) rfl)) (i := idxI k02 i) (by omega) (by omega)
     replace hs4z : Sl _ u3z (k02.drop (Int.toNat (idxI k02 i))) := hs4z
     refine s_val (x_sl (v := v_k02) (u := u3z) (lo' := some (I (idxI k02 i))) (hi' := none) (mx' := none) rfl rfl rfl rfl (hr_u3z _)) ?_
     obtain ⟨r7z, hx6z, hM⟩ := M.e_bind hM
     refine s_call cf133 [u3z] rfl (slices_Clone_int_ok (k02.drop (Int.toNat (idxI k02 i))) (Reads.of (k := 0) rfl ownLe) hs4z hx6z _ (St.give (T := [cOwn (α := Int) 3 v_k02 k02, cBlk b_k0 [v_k02] 34]) H rfl)) ?_
     rintro vq w8z ⟨r2, u0_1, hr9z, hvq, H2_⟩
     subst hr9z
     subst vq
     try dsimp only at hM
     replace H : St w w8z [cOwn (α := Int) 3 u0_1 r2, cOwn (α := Int) 3 v_k02 k02, cBlk b_k0 [v_k02] 34] R := H.back H2_ rfl
     clear H2_
     refine sA u0_1 rfl <| s_nil ?_
     refine W.ret ?_
     have hr_ := M.e_pure hM
     exact ⟨_, resE_tmp rfl, ⟨r2, k02, u0_1, v_k02, hr_, rfl, H⟩⟩
    replace hM := M.e_f hM c2z
    simp only [qz1, qz2, qz3, qz4, qz5, qz6, ne_eq, qz7] at c2z
    refine W.skip <| sQ rfl <| s_val (x_ld (p := Pz b_k0) (v := v_k02) rfl (ldb_sc Sc34 (H.blk (k := 1) rfl) rfl)) <| sM (I i) rfl ?_
    refine t_bs (α := Int) T34 [I i] [(i : Int)] H rfl (.cons rfl (Flat.rep_enc _ (i : Int)) <| .nil) rfl rfl rfl ?_
    intro v10z w11z H
    obtain ⟨sd12z, hM⟩ := M.e_gd hM
    refine t_app (α := Int) (k := 1) (l := k02) (l2 := [(i : Int)]) (l' := k02 ++ ([(i : Int)])) (vy := v10z) T34 rfl H rfl rfl rfl (ownSl (H.get (k := 0) rfl)) (ownLe _ (H.get (k := 0) rfl)) (rfl) (by first | omega | (simp only [List.length_nil] at *; omega)) ?_
    intro v13z w14z H
    replace H : St w w14z [cOwn (α := Int) 3 v10z ([(i : Int)]), cOwn (α := Int) 3 v13z (k02 ++ ([(i : Int)])), cBlk b_k0 [v_k02] 34] R := H
    refine t_st (k := 2) (b := b_k0) (off := 0) (cs := [v_k02]) (vs := [v13z]) (cs' := [v13z]) (v := v13z) (L' := [cOwn (α := Int) 3 v10z ([(i : Int)]), cOwn (α := Int) 3 v13z (k02 ++ ([(i : Int)])), cBlk b_k0 [v13z] 34]) H rfl rfl rfl Sz34 (Sl.cells (ownSl (H.get (k := 1) rfl))) rfl rfl (by simp only [List.all_cons, List.all_nil, Bool.true_and, Bool.and_true, Sl.oc (ownSl (H.get (k := 1) rfl))]; try rfl) rfl rfl ?_
    intro w15z H
    refine s_nil <| sQ rfl <| s_val (x_ld (p := Pz b_k1) (v := v_k12) rfl (ldb_sc Sc22 (h_b_k1.blk H) rfl)) <| sM (I i) rfl ?_
    obtain ⟨sd16z, hM⟩ := M.e_gd hM
    refine s_val (x_ix (a := v_k12) (b := I i) (v := vat v_k12 3 (Int.toNat i)) rfl rfl (Sl.ix (α := Work) T22.und T22.size hs_k12 (by omega) (by omega))) <| s_val (x_fa (a := vat v_k12 3 (Int.toNat i)) (v := fat (vat v_k12 3 (Int.toNat i)) 0) rfl (fa_pl Fd60_0 Sz34 (Sl.pl (i := i) hs_k12 (by omega) (by omega)))) ?_
    obtain ⟨u17z, ha_u17z, hs18z⟩ := Work_at0 hs_k12 (i := i) (by omega) (by omega)
    replace hs18z : Sl _ u17z (k12.getD (Int.toNat i) default).of := hs18z
    have hl_hs18z := hs18z.len_le
    refine s_val (x_ld (p := fat (vat v_k12 3 (Int.toNat i)) 0) (v := u17z) rfl (ld_sc Sc34 (At.mono (ha_u17z) (hC_k12.at H)))) <| s_val (x_mf (fs := []) (cs := [Pz b_k2]) rfl rfl) ?_
    obtain ⟨r20z, hx19z, hM⟩ := M.e_bind hM
    refine s_call cf102 [u17z, .func (.func 134) #[] #[Pz b_k2]] rfl (slices_IndexFunc_int_ok ((k12.getD (Int.toNat i) default).of) (fun xqz => m_notes_Circle_1_1 xqz k22) (hC_k12.app _) hs18z ⟨134, [Pz b_k2], rfl, cf134, fun wqz Lqz Cqz vqz xqz bqz hsqz hCqz hAqz hpqz => by obtain rfl := Arg.int hAqz; exact (notes_Circle_1_1_ok xqz k22 (Reads.app (hC_k22.app _) _) hs_k22 (Has.app (h_b_k2.app _) _) hpqz wqz (St.refl hsqz)).mono fun vqz wqz ⟨yqz, hrqz, hvqz, Hqz⟩ => by subst hrqz; exact ⟨hvqz, Hqz⟩⟩ hx19z _ (St.give (T := [cOwn (α := Int) 3 v10z ([(i : Int)]), cOwn (α := Int) 3 v13z (k02 ++ ([(i : Int)])), cBlk b_k0 [v13z] 34]) H rfl)) ?_
    rintro vq w21z ⟨r3, hr22z, hvq, H2_⟩
    subst hr22z
    subst vq
    try dsimp only at hM
    replace H : St w w21z [cOwn (α := Int) 3 v10z ([(i : Int)]), cOwn (α := Int) 3 v13z (k02 ++ ([(i : Int)])), cBlk b_k0 [v13z] 34] R := H.back H2_ rfl
    clear H2_
    refine sA (I r3) rfl <| s_nil <| W.seq ?_
    refine W.draw (fun W => St w W [cOwn (α := Int) 3 v10z ([(i : Int)])] R) [(0, true), (1, true), (2, true), (3, true), (4, true), (5, true), (6, true), (7, true), (8, true), (9, false), (10, true)] mixed (by decide +kernel) rfl ?_
    intro w23z hx_
    replace H : St w w23z [cOwn (α := Int) 3 v10z ([(i : Int)]), cOwn (α := Int) 3 v13z (k02 ++ ([(i : Int)])), cBlk b_k0 [v13z] 34] R := H.ext hx_
    clear hx_
    refine ⟨(H.pick [0] (by decide) rfl), ?_⟩
    refine d_q rfl (fun w' H => x_ld (p := Pz b_k3) (v := .func (.func 132) #[] #[Pz b_k0, Pz b_k1, Pz b_k2, Pz b_k3]) rfl (ldb_sc Sc189 (h_b_k3.blk H) rfl)) ?_
    refine d_q rfl (fun w' H => x_ld (p := Pz b_k1) (v := v_k12) rfl (ldb_sc Sc22 (h_b_k1.blk H) rfl)) ?_
    refine d_q rfl (fun w' H => x_mv (v := I i) rfl) ?_
    refine d_q rfl (fun w' H => x_ix (a := v_k12) (b := I i) (v := vat v_k12 3 (Int.toNat i)) rfl rfl (Sl.ix (α := Work) T22.und T22.size hs_k12 (by omega) (by omega))) ?_
    refine d_q rfl (fun w' H => x_fa (a := vat v_k12 3 (Int.toNat i)) (v := fat (vat v_k12 3 (Int.toNat i)) 0) rfl (fa_pl Fd60_0 Sz34 (Sl.pl (i := i) hs_k12 (by omega) (by omega)))) ?_
    obtain ⟨u24z, ha_u24z, hs25z⟩ := Work_at0 hs_k12 (i := i) (by omega) (by omega)
    replace hs25z : Sl _ u24z (k12.getD (Int.toNat i) default).of := hs25z
    have hl_hs25z := hs25z.len_le
    refine d_q rfl (fun w' H => x_ld (p := fat (vat v_k12 3 (Int.toNat i)) 0) (v := u24z) rfl (ld_sc Sc34 (At.mono (ha_u24z) (hC_k12.at H)))) ?_
    refine d_q rfl (fun w' H => x_mv (v := I r3) rfl) ?_
    obtain ⟨sd26z, hM⟩ := M.e_gd hM
    refine d_q rfl (fun w' H => x_ix (a := u24z) (b := I r3) (v := vat u24z 1 (Int.toNat r3)) rfl rfl (Sl.ix (α := Int) T34.und T34.size hs25z (by omega) (by omega))) ?_
    refine d_q rfl (fun w' H => x_ld (p := vat u24z 1 (Int.toNat r3)) (v := I (((k12.getD (Int.toNat i) default).of).getD (Int.toNat r3) 0)) rfl (ld_sc Sc3 (At.mono (Int_at hs25z (i := r3) (by omega) (by omega)) (hC_k12.at H)))) ?_
    refine d_l rfl ?_
    obtain ⟨r28z, hx27z, hM⟩ := M.e_bind hM
    refine s_callv (f := 132) rfl cf132 [I (((k12.getD (Int.toNat i) default).of).getD (Int.toNat r3) 0)] rfl (ih (((k12.getD (Int.toNat i) default).of).getD (Int.toNat r3) 0) (k02 ++ ([(i : Int)])) k12 k22 (hC_k12.app _) hs_k12 (h_b_k1.app _) (hC_k22.app _) hs_k22 (h_b_k2.app _) (h_b_k3.app _) hx27z _ (St.give (L := [cOwn (α := Int) 3 v13z (k02 ++ ([(i : Int)])), cBlk b_k0 [v13z] 34, cOwn (α := Int) 3 v10z ([(i : Int)])]) (A := [cOwn (α := Int) 3 v13z (k02 ++ ([(i : Int)])), cBlk b_k0 [v13z] 34]) (T := [cOwn (α := Int) 3 v10z ([(i : Int)])]) (H.pick [1, 2, 0] (by decide) rfl) rfl)) ?_
    rintro vq w29z ⟨r4, l_k02, u0_3, u1_4, hr30z, hvq, H2_⟩
    subst hr30z
    subst vq
    try dsimp only at hM
    replace H : St w w29z [cOwn (α := Int) 3 u0_3 r4, cOwn (α := Int) 3 u1_4 l_k02, cBlk b_k0 [u1_4] 34, cOwn (α := Int) 3 v10z ([(i : Int)])] R := H.pick [1, 2, 0] (by decide) rfl |>.back H2_ rfl
    clear H2_
    refine s_nil ⟨(H.pick [3] (by decide) rfl), ?_⟩
    refine d_q rfl (fun w' H => x_as (v := u0_3) rfl) ?_
    refine d_nil ?_
    refine W.ret ?_
    have hr_ := M.e_pure hM
    exact ⟨_, resE_tmp rfl, ⟨r4, l_k02, u0_3, u1_4, hr_, rfl, (H.pick [0, 1, 2] (by decide) rfl)⟩⟩
theorem notes_Circle_1_ok {R : List Chunk} {b_k0 : Nat} {v_k02 : Value} {b_k1 : Nat} {C_k12 : Cells} {v_k12 : Value} {b_k2 : Nat} {C_k22 : Cells} {v_k22 : Value} {b_k3 : Nat} (i : Int) (k02 : List Int) (k12 : List Work) (k22 : List Int) (hC_k12 : Reads R C_k12) (hs_k12 : Sl C_k12 v_k12 k12) (h_b_k1 : Has R (cBlk b_k1 [v_k12] 22)) (hC_k22 : Reads R C_k22) (hs_k22 : Sl C_k22 v_k22 k22) (h_b_k2 : Has R (cBlk b_k2 [v_k22] 34)) (h_b_k3 : Has R (cBlk b_k3 [.func (.func 132) #[] #[Pz b_k0, Pz b_k1, Pz b_k2, Pz b_k3]] 189)) {r : ((List Int) × (List Int))} (hM : (m_notes_Circle_1 i k02 k12 k22).Ends r) (w : World) (H : St w w [cOwn (α := Int) 3 v_k02 k02, cBlk b_k0 [v_k02] 34] R) : Ret Try.prog 132 #[I i, Pz b_k0, Pz b_k1, Pz b_k2, Pz b_k3] w fun v w' => ∃ (y0 : List Int) (y1 : List Int) (u0 : Value) (u1 : Value), (y0, y1) = r ∧ v = u0 ∧ St w w' [cOwn (α := Int) 3 u0 y0, cOwn (α := Int) 3 u1 y1, cBlk b_k0 [u1] 34] R := by
  obtain ⟨n_, hM⟩ := M.e_fix hM
  exact notes_Circle_1_okN n_ i k02 k12 k22 hC_k12 hs_k12 h_b_k1 hC_k22 hs_k22 h_b_k2 h_b_k3 hM w H

def m_notes_Circle_b0 (w_ : List Work) (r2 : List Int) : Nat → M (Nat ⊕ (((List Int) × (List Int)) ⊕ Unit)) := fun s =>
  bif decide ((s : Int) < (w_.length : Int)) then (
  bif !(r2.contains (s : Int)) then (
  M.bind (m_notes_Circle_1 (s : Int) ([] : List Int) w_ r2) fun (r3, l_k02) =>
  M.pure (.inr (.inl (r3, l_k02))))
  else (
  M.pure (.inl (s + 1))))
  else (
  M.pure (.inr (.inr ())))
def m_notes_Circle (w_ : List Work) : M ((List Int) × Int) :=
  bif (rightE w_) != 0 then (
  M.pure (([]), (rightE w_)))
  else (
  M.bind (m_notes_web_order w_) fun r2 =>
  M.bind (M.iter (m_notes_Circle_b0 w_ r2) 0) fun x_ => match x_ with
  | (.inl (l, l2)) => (
  M.pure (l, 0))
  | (.inr (_ : Unit)) => (
  M.pure (([]), 5)))
theorem notes_Circle_ok {R : List Chunk} {C_w_ : Cells} {v_w_ : Value} (w_ : List Work) (hC_w_ : Reads R C_w_) (hs_w_ : Sl C_w_ v_w_ w_) {r : ((List Int) × Int)} (hM : (m_notes_Circle w_).Ends r) (w : World) (H : St w w [] R) : Ret Try.prog 67 #[v_w_] w fun v w' => ∃ (y0 : List Int) (y1 : Int) (u0 : Value), (y0, y1) = r ∧ v = .tuple #[u0, I y1] ∧ St w w' [cOwn (α := Int) 3 u0 y0] R := by
 refine ret_of_W Try.func67 rfl rfl rfl ?_
 refine sQ rfl ?_
 refine t_box (v := v_w_) (cs := [v_w_]) H rfl (Sl.cells hs_w_) ?_
 intro b_1 w1z H
 refine sA (.slice none 0 0) rfl <| sA (I 0) rfl <| s_nil <| W.seq <| sQ rfl <| s_val (x_ld (p := Pz b_1) (v := v_w_) rfl (ldb_sc Sc22 (H.blk (k := 0) rfl) rfl)) ?_
 refine s_call cf130 [v_w_] rfl (right_any _ (hs_w_.mono (hC_w_.at H))) ?_
 rintro _ w2z ⟨rfl, hx_⟩
 replace H : St w w2z [cBlk b_1 [v_w_] 22] R := H.ext hx_
 clear hx_
 refine sA (I (rightE w_)) rfl <| s_nil <| sQ rfl <| sM (I (rightE w_)) rfl <| sC (rightE w_) 0 ((rightE w_) != 0) rfl rfl rfl <| s_nil ?_
 refine W.cond ((rightE w_) != 0) rfl (fun c3z => ?_) (fun c3z => ?_)
 ·replace hM := M.e_t hM c3z
  simp only [qz1, qz2, qz3, qz4, qz5, qz6, ne_eq, qz7] at c3z
  refine sQ rfl <| sM (I (rightE w_)) rfl <| sA (.slice none 0 0) rfl <| sA (I (rightE w_)) rfl <| s_nil ?_
  refine W.ret ?_
  have hr_ := M.e_pure hM
  replace H : St w w2z [cOwn (α := Int) 3 (.slice none 0 0) ([]), cBlk b_1 [v_w_] 22] R := H.nilOwn (α := Int) 3
  exact ⟨_, resE_tmp2 rfl, ⟨([]), (rightE w_), (.slice none 0 0), hr_, rfl, (H.pick [0] (by decide) rfl)⟩⟩
 replace hM := M.e_f hM c3z
 simp only [qz1, qz2, qz3, qz4, qz5, qz6, ne_eq, qz7] at c3z
 refine W.skip <| sQ rfl <| s_val (x_ld (p := Pz b_1) (v := v_w_) rfl (ldb_sc Sc22 (H.blk (k := 0) rfl) rfl)) <| s_val (x_bld (ps := [(0, v_w_)]) (zs := [.slice none 0 0]) (L' := [v_w_]) rfl Try.underlying185 Al185 rfl (Bd185 Try.underlying185) (.cons (cs := [v_w_]) (Sl.cells hs_w_) rfl rfl rfl rfl <| .nil)) <| s_val (x_bld (ps := [(0, .agg #[v_w_])]) (zs := [.slice none 0 0]) (L' := [v_w_]) rfl Try.underlying187 Al187 rfl (Bd187 Try.underlying187) (.cons (cs := [v_w_]) rfl rfl rfl rfl rfl <| .nil)) ?_
 refine t_box (v := .agg #[v_w_]) (cs := [v_w_]) H rfl rfl ?_
 intro b_2 w4z H
 refine sA (Pz b_2) rfl <| s_nil <| sQ rfl <| sM (Pz b_2) rfl ?_
 obtain ⟨r6z, hx5z, hM⟩ := M.e_bind hM
 refine s_call cf131 [Pz b_2] rfl (notes_web_order_ok w_ (hC_w_.app _) hs_w_ (Has.here (k := 0) rfl) hx5z _ (St.give (T := [cBlk b_2 [v_w_] 187, cBlk b_1 [v_w_] 22]) H rfl)) ?_
 rintro vq w7z ⟨r2, u0_3, hr8z, hvq, H2_⟩
 subst hr8z
 subst vq
 try dsimp only at hM
 replace H : St w w7z [cOwn (α := Int) 3 u0_3 r2, cBlk b_2 [v_w_] 187, cBlk b_1 [v_w_] 22] R := H.back H2_ rfl
 clear H2_
 refine t_alloc (cs := [.slice none 0 0]) H Al34 rfl ?_
 intro b_4 w9z H
 refine t_st (k := 0) (b := b_4) (off := 0) (cs := [.slice none 0 0]) (vs := [u0_3]) (cs' := [u0_3]) (v := u0_3) (L' := [cBlk b_4 [u0_3] 34, cOwn (α := Int) 3 u0_3 r2, cBlk b_2 [v_w_] 187, cBlk b_1 [v_w_] 22]) H rfl rfl rfl Sz34 (Sl.cells (ownSl (H.get (k := 1) rfl))) rfl rfl (by simp only [List.all_cons, List.all_nil, Bool.true_and, Bool.and_true, Sl.oc (ownSl (H.get (k := 1) rfl))]; try rfl) rfl rfl ?_
 intro w10z H
 refine s_nil <| sQ rfl ?_
 refine t_alloc (cs := [.slice none 0 0]) H Al34 rfl ?_
 intro b_5 w11z H
 refine s_nil <| sQ rfl ?_
 refine t_alloc (cs := [.nilFunc]) H Al189 rfl ?_
 intro b_6 w12z H
 refine s_nil <| sQ rfl <| s_val (x_mf (fs := []) (cs := [Pz b_5, Pz b_1, Pz b_4, Pz b_6]) rfl rfl) ?_
 refine t_st (k := 0) (b := b_6) (off := 0) (cs := [.nilFunc]) (vs := [.func (.func 132) #[] #[Pz b_5, Pz b_1, Pz b_4, Pz b_6]]) (cs' := [.func (.func 132) #[] #[Pz b_5, Pz b_1, Pz b_4, Pz b_6]]) (v := .func (.func 132) #[] #[Pz b_5, Pz b_1, Pz b_4, Pz b_6]) (L' := [cBlk b_6 [.func (.func 132) #[] #[Pz b_5, Pz b_1, Pz b_4, Pz b_6]] 189, cBlk b_5 [.slice none 0 0] 34, cBlk b_4 [u0_3] 34, cOwn (α := Int) 3 u0_3 r2, cBlk b_2 [v_w_] 187, cBlk b_1 [v_w_] 22]) H rfl rfl rfl Sz189 rfl rfl rfl rfl rfl rfl ?_
 intro w13z H
 refine s_nil <| W.seq <| sQ rfl <| s_val (x_ld (p := Pz b_1) (v := v_w_) rfl (ldb_sc Sc22 (H.blk (k := 5) rfl) rfl)) ?_
 have hl14z := (hs_w_).len_le
 refine s_val (x_lenS T22.und rfl hs_w_) <| sM (I 0) rfl <| s_nil <| W.block ?_
 obtain ⟨ex15z, hi16z, hk17z⟩ := M.e_bind hM
 obtain ⟨m0_, hi16z⟩ := M.e_iter hi16z
 refine W.loop (fun m σ W => ∃ (s : Nat) (ρ : Env), σ = upds ρ [(6, Pz b_4), (8, Pz b_6), (23, I (w_.length : Int)), (24, I (s : Int))] ∧ M.iterN (m_notes_Circle_b0 w_ r2) m s = some ex15z ∧ St w W [cBlk b_6 [.func (.func 132) #[] #[Pz b_5, Pz b_1, Pz b_4, Pz b_6]] 189, cBlk b_5 [.slice none 0 0] 34, cBlk b_4 [u0_3] 34, cOwn (α := Int) 3 u0_3 r2, cBlk b_2 [v_w_] 187, cBlk b_1 [v_w_] 22] R) ?_ ?_
 ·exact ⟨_, 0, _, upds_of _ _ ⟨rfl, rfl, rfl, rfl, trivial⟩, hi16z, H⟩
 rintro m20z σ w18z ⟨s, ρ, rfl, hI19z, H⟩
 obtain ⟨m21z, lt22z, x23z, hM, hN24z⟩ := M.e_iterN hI19z
 simp only [m_notes_Circle_b0] at hM
 clear hI19z
 refine sQ rfl <| sC (s : Int) (w_.length : Int) (decide ((s : Int) < (w_.length : Int))) rfl rfl rfl <| s_nil <| W.seq ?_
 refine W.cond (decide ((s : Int) < (w_.length : Int))) rfl (fun c25z => ?_) (fun c25z => ?_)
 ·replace hM := M.e_t hM c25z
  simp only [qz1, qz2, qz3, qz4, qz5, qz6, ne_eq, qz7] at c25z
  refine W.skip <| W.seq <| W.block <| sQ rfl <| sM (I (s : Int)) rfl <| sA (I (s : Int)) rfl <| s_nil <| sQ rfl <| s_val (x_ld (p := Pz b_4) (v := u0_3) rfl (ldb_sc Sc34 (H.blk (k := 2) rfl) rfl)) <| sM (I (s : Int)) rfl ?_
  refine s_call cf45 [u0_3, I (s : Int)] rfl (contains_int (s : Int) _ ((ownSl (H.get (k := 3) rfl)).mono (ownLe _ (H.get (k := 3) rfl)))) ?_
  rintro _ w26z ⟨rfl, hx_⟩
  replace H : St w w26z [cBlk b_6 [.func (.func 132) #[] #[Pz b_5, Pz b_1, Pz b_4, Pz b_6]] 189, cBlk b_5 [.slice none 0 0] 34, cBlk b_4 [u0_3] 34, cOwn (α := Int) 3 u0_3 r2, cBlk b_2 [v_w_] 187, cBlk b_1 [v_w_] 22] R := H.ext hx_
  clear hx_
  refine s_val (x_not (b := r2.contains (s : Int)) rfl) <| s_nil ?_
  refine W.cond (!(r2.contains (s : Int))) rfl (fun c27z => ?_) (fun c27z => ?_)
  ·replace hM := M.e_t hM c27z
   refine sQ rfl <| s_val (x_ld (p := Pz b_6) (v := .func (.func 132) #[] #[Pz b_5, Pz b_1, Pz b_4, Pz b_6]) rfl (ldb_sc Sc189 (H.blk (k := 0) rfl) rfl)) <| sM (I (s : Int)) rfl ?_
   replace H : St w w26z [cOwn (α := Int) 3 (.slice none 0 0) ([]), cBlk b_6 [.func (.func 132) #[] #[Pz b_5, Pz b_1, Pz b_4, Pz b_6]] 189, cBlk b_5 [.slice none 0 0] 34, cBlk b_4 [u0_3] 34, cOwn (α := Int) 3 u0_3 r2, cBlk b_2 [v_w_] 187, cBlk b_1 [v_w_] 22] R := H.nilOwn (α := Int) 3
   replace H : St w w26z [cOwn (α := Int) 3 (.slice none 0 0) ([]), cBlk b_6 [.func (.func 132) #[] #[Pz b_5, Pz b_1, Pz b_4, Pz b_6]] 189, cBlk b_5 [(.slice none 0 0)] 34, cBlk b_4 [u0_3] 34, cOwn (α := Int) 3 u0_3 r2, cBlk b_2 [v_w_] 187, cBlk b_1 [v_w_] 22] R := H
   obtain ⟨r29z, hx28z, hM⟩ := M.e_bind hM
   refine s_callv (f := 132) rfl cf132 [I (s : Int)] rfl (notes_Circle_1_ok (s : Int) ([] : List Int) w_ r2 (hC_w_.app _) hs_w_ (Has.here (k := 4) rfl) (Reads.of (k := 2) rfl ownLe) (ownSl (H.get (k := 4) rfl)) (Has.here (k := 1) rfl) (Has.here (k := 0) rfl) hx28z _ (St.give (L := [cOwn (α := Int) 3 (.slice none 0 0) ([]), cBlk b_5 [(.slice none 0 0)] 34, cBlk b_6 [.func (.func 132) #[] #[Pz b_5, Pz b_1, Pz b_4, Pz b_6]] 189, cBlk b_4 [u0_3] 34, cOwn (α := Int) 3 u0_3 r2, cBlk b_2 [v_w_] 187, cBlk b_1 [v_w_] 22]) (A := [cOwn (α := Int) 3 (.slice none 0 0) ([]), cBlk b_5 [(.slice none 0 0)] 34]) (T := [cBlk b_6 [.func (.func 132) #[] #[Pz b_5, Pz b_1, Pz b_4, Pz b_6]] 189, cBlk b_4 [u0_3] 34, cOwn (α := Int) 3 u0_3 r2, cBlk b_2 [v_w_] 187, cBlk b_1 [v_w_] 22]) (H.pick [0, 2, 1, 3, 4, 5, 6] (by decide) rfl) rfl)) ?_
   rintro vq w30z ⟨r3, l_k02, u0_8, u1_9, hr31z, hvq, H2_⟩
   subst hr31z
   subst vq
   try dsimp only at hM
   replace H : St w w30z [cOwn (α := Int) 3 u0_8 r3, cOwn (α := Int) 3 u1_9 l_k02, cBlk b_5 [u1_9] 34, cBlk b_6 [.func (.func 132) #[] #[Pz b_5, Pz b_1, Pz b_4, Pz b_6]] 189, cBlk b_4 [u0_3] 34, cOwn (α := Int) 3 u0_3 r2, cBlk b_2 [v_w_] 187, cBlk b_1 [v_w_] 22] R := H.pick [0, 2, 1, 3, 4, 5, 6] (by decide) rfl |>.back H2_ rfl
   clear H2_
   refine sA u0_8 rfl <| sA (I 0) rfl <| s_nil ?_
   refine W.ret ?_
   have hX32z := M.e_inr hM hN24z
   subst hX32z
   replace hM := hk17z
   try dsimp only at hM
   have hr_ := M.e_pure hM
   exact ⟨_, resE_tmp2 rfl, ⟨r3, 0, u0_8, hr_, rfl, (H.pick [0] (by decide) rfl)⟩⟩
  replace hM := M.e_f hM c27z
  refine W.skip <| W.region rfl <| sR (s : Int) 1 ((s : Int) + 1) rfl rfl rfl (by omega) <| sM (I ((s : Int) + 1)) rfl <| s_nil ?_
  exact ⟨m21z, lt22z, s + 1, _, upds_of _ _ ⟨rfl, rfl, rfl, rfl, trivial⟩, M.e_inl hM hN24z, H⟩
 replace hM := M.e_f hM c25z
 simp only [qz1, qz2, qz3, qz4, qz5, qz6, ne_eq, qz7] at c25z
 refine W.exit ?_
 have hX33z := M.e_inr hM hN24z
 subst hX33z
 replace hM := hk17z
 try dsimp only at hM
 refine sQ rfl <| sA (.slice none 0 0) rfl <| sA (I 5) rfl <| s_nil ?_
 refine W.ret ?_
 have hr_ := M.e_pure hM
 replace H : St w w18z [cOwn (α := Int) 3 (.slice none 0 0) ([]), cBlk b_6 [.func (.func 132) #[] #[Pz b_5, Pz b_1, Pz b_4, Pz b_6]] 189, cBlk b_5 [.slice none 0 0] 34, cBlk b_4 [u0_3] 34, cOwn (α := Int) 3 u0_3 r2, cBlk b_2 [v_w_] 187, cBlk b_1 [v_w_] 22] R := H.nilOwn (α := Int) 3
 exact ⟨_, resE_tmp2 rfl, ⟨([]), 5, (.slice none 0 0), hr_, rfl, (H.pick [0] (by decide) rfl)⟩⟩

def m_nilometerlaw13_circle_b2 (w_ : List Work) (l : List Int) (s3 : Nat) : (Bool × Nat) → M ((Bool × Nat) ⊕ Bool) := fun (there, s) =>
  bif decide ((s : Int) < (((w_.getD (Int.toNat (l.getD s3 0)) default).of).length : Int)) then (
  M.grd (decide ((s : Int) < (((w_.getD (Int.toNat (l.getD s3 0)) default).of).length : Int))) <|
  M.pure (.inl ((there || ((((w_.getD (Int.toNat (l.getD s3 0)) default).of).getD s 0) == (l.getD (Int.toNat (((s3 : Int) + 1) % (l.length : Int))) 0))), s + 1)))
  else (
  M.pure (.inr there))
def m_nilometerlaw13_circle_b3 (l : List Int) (s3 : Nat) : Nat → M (Nat ⊕ (Unit ⊕ Unit)) := fun s2 =>
  bif decide ((s2 : Int) < (s3 : Int)) then (
  M.grd (decide ((s2 : Int) < (l.length : Int))) <|
  bif (l.getD s2 0) == (l.getD s3 0) then (
  M.pure (.inr (.inl ())))
  else (
  M.pure (.inl (s2 + 1))))
  else (
  M.pure (.inr (.inr ())))
def m_nilometerlaw13_circle_b4 (w_ : List Work) (l : List Int) : Nat → M (Nat ⊕ (Unit ⊕ Unit)) := fun s3 =>
  bif decide ((s3 : Int) < (l.length : Int)) then (
  M.grd (decide ((s3 : Int) < (l.length : Int))) <|
  bif ((decide ((l.getD s3 0) < 0)) || (decide ((w_.length : Int) ≤ (l.getD s3 0)))) then (
  M.pure (.inr (.inl ())))
  else (
  M.grd (decide ((0 : Int) ≤ ((s3 : Int) + 1)) && decide ((0 : Int) < (l.length : Int))) <|
  M.grd (decide ((0 : Int) ≤ (((s3 : Int) + 1) % (l.length : Int))) && decide ((((s3 : Int) + 1) % (l.length : Int)) < (l.length : Int))) <|
  M.grd (decide ((0 : Int) ≤ (l.getD s3 0)) && decide ((l.getD s3 0) < (w_.length : Int))) <|
  M.bind (M.iter (m_nilometerlaw13_circle_b2 w_ l s3) (false, 0)) fun there2 =>
  M.bind (M.iter (m_nilometerlaw13_circle_b3 l s3) 0) fun x_ => match x_ with
  | (.inl (_ : Unit)) => (
  M.pure (.inr (.inl ())))
  | (.inr (_ : Unit)) => (
  bif !there2 then (
  M.pure (.inr (.inl ())))
  else (
  M.pure (.inl (s3 + 1))))))
  else (
  M.pure (.inr (.inr ())))
def m_nilometerlaw13_circle (w_ : List Work) (l : List Int) : M Bool :=
  M.bind (M.iter (m_nilometerlaw13_circle_b4 w_ l) 0) fun x_ => match x_ with
  | (.inl (_ : Unit)) => (
  M.pure false)
  | (.inr (_ : Unit)) => (
  M.pure (decide (0 < (l.length : Int))))
theorem nilometerlaw13_circle_ok {R : List Chunk} {C_w_ : Cells} {v_w_ : Value} {C_l : Cells} {v_l : Value} (w_ : List Work) (l : List Int) (hC_w_ : Reads R C_w_) (hs_w_ : Sl C_w_ v_w_ w_) (hC_l : Reads R C_l) (hs_l : Sl C_l v_l l) {r : Bool} (hM : (m_nilometerlaw13_circle w_ l).Ends r) (w : World) (H : St w w [] R) : Ret Try.prog 69 #[v_w_, v_l] w fun v w' => ∃ (y0 : Bool), y0 = r ∧ v = B y0 ∧ St w w' [] R := by
 refine ret_of_W Try.func69 rfl rfl rfl ?_
 refine sQ rfl <| sA (B false) rfl <| s_nil <| W.seq <| sQ rfl <| sM v_l rfl ?_
 have hl1z := (hs_l).len_le
 refine s_val (x_lenS T34.und rfl hs_l) <| sM (I 0) rfl <| s_nil <| W.block ?_
 obtain ⟨ex2z, hi3z, hk4z⟩ := M.e_bind hM
 obtain ⟨m0_, hi3z⟩ := M.e_iter hi3z
 refine W.loop (fun m σ W => ∃ (s3 : Nat) (ρ : Env), σ = upds ρ [(0, v_w_), (1, v_l), (12, v_l), (13, I (l.length : Int)), (14, I (s3 : Int))] ∧ M.iterN (m_nilometerlaw13_circle_b4 w_ l) m s3 = some ex2z ∧ St w W [] R) ?_ ?_
 ·exact ⟨_, 0, _, upds_of _ _ ⟨rfl, rfl, rfl, rfl, rfl, trivial⟩, hi3z, H⟩
 rintro m7z σ w5z ⟨s3, ρ, rfl, hI6z, H⟩
 obtain ⟨m8z, lt9z, x10z, hM, hN11z⟩ := M.e_iterN hI6z
 simp only [m_nilometerlaw13_circle_b4] at hM
 clear hI6z
 refine sQ rfl <| sC (s3 : Int) (l.length : Int) (decide ((s3 : Int) < (l.length : Int))) rfl rfl rfl <| s_nil <| W.seq ?_
 refine W.cond (decide ((s3 : Int) < (l.length : Int))) rfl (fun c12z => ?_) (fun c12z => ?_)
 ·replace hM := M.e_t hM c12z
  simp only [qz1, qz2, qz3, qz4, qz5, qz6, ne_eq, qz7] at c12z
  refine W.skip <| W.seq <| W.block <| sQ rfl <| sM (I (s3 : Int)) rfl ?_
  obtain ⟨sd13z, hM⟩ := M.e_gd hM
  refine s_val (x_ix (a := v_l) (b := I (s3 : Int)) (v := vat v_l 1 (Int.toNat (s3 : Int))) rfl rfl (Sl.ix (α := Int) T34.und T34.size hs_l (by omega) (by omega))) <| s_val (x_ld (p := vat v_l 1 (Int.toNat (s3 : Int))) (v := I (l.getD s3 0)) rfl (ld_sc Sc3 (At.mono (Int_at hs_l (i := (s3 : Int)) (by omega) (by omega)) (hC_l.at H)))) <| sA (I (s3 : Int)) rfl <| sA (I (l.getD s3 0)) rfl <| s_nil <| W.seq <| sQ rfl <| sM (I (l.getD s3 0)) rfl <| sC (l.getD s3 0) 0 (decide ((l.getD s3 0) < 0)) rfl rfl rfl <| sM (B (decide ((l.getD s3 0) < 0))) rfl <| g_val (!(decide ((l.getD s3 0) < 0))) (gy_f rfl) (fun hg => x_mv (v := I (l.getD s3 0)) rfl) ?_
  refine g_val (!(decide ((l.getD s3 0) < 0))) (gy_f rfl) (fun hg => x_mv (v := v_w_) rfl) <| g_val (!(decide ((l.getD s3 0) < 0))) (gy_f rfl) (fun hg => x_lenS T22.und (gd_of (c := !(decide ((l.getD s3 0) < 0))) hg (v_w_)) hs_w_) <| g_val (!(decide ((l.getD s3 0) < 0))) (gy_f rfl) (fun hg => x_cmp (kd := .i64) (a := l.getD s3 0) (b := (w_.length : Int)) (r := decide ((w_.length : Int) ≤ (l.getD s3 0))) (gd_of (c := !(decide ((l.getD s3 0) < 0))) hg (I (l.getD s3 0))) (gd_of (c := !(decide ((l.getD s3 0) < 0))) hg (I (w_.length : Int))) rfl) <| s_val (x_por (b := decide ((l.getD s3 0) < 0)) (r := decide ((w_.length : Int) ≤ (l.getD s3 0))) rfl rfl (fun hb => gd_of (c := !(decide ((l.getD s3 0) < 0))) (by first | exact hb | (rw [hb]; rfl) | simp_all) (B (decide ((w_.length : Int) ≤ (l.getD s3 0)))))) <| s_nil ?_
  refine W.cond ((decide ((l.getD s3 0) < 0)) || (decide ((w_.length : Int) ≤ (l.getD s3 0)))) rfl (fun c15z => ?_) (fun c15z => ?_)
  ·replace hM := M.e_t hM c15z
   refine sQ rfl <| sA (B false) rfl <| s_nil ?_
   refine W.ret ?_
   have hX16z := M.e_inr hM hN11z
   subst hX16z
   replace hM := hk4z
   try dsimp only at hM
   have hr_ := M.e_pure hM
   exact ⟨_, resE_tmp rfl, ⟨false, hr_, rfl, H⟩⟩
  replace hM := M.e_f hM c15z
  refine W.skip <| sQ rfl <| sM v_l rfl <| sM (I (s3 : Int)) rfl <| sR (s3 : Int) 1 ((s3 : Int) + 1) rfl rfl rfl (by omega) <| sM v_l rfl ?_
  have hl17z := (hs_l).len_le
  refine s_val (x_lenS T34.und rfl hs_l) ?_
  obtain ⟨sd18z, hM⟩ := M.e_gd hM
  refine s_val (x_rem' (a := (s3 : Int) + 1) (b := (l.length : Int)) rfl rfl (by omega)) ?_
  obtain ⟨sd19z, hM⟩ := M.e_gd hM
  refine s_val (x_ix (a := v_l) (b := I (((s3 : Int) + 1) % (l.length : Int))) (v := vat v_l 1 (Int.toNat (((s3 : Int) + 1) % (l.length : Int)))) rfl rfl (Sl.ix (α := Int) T34.und T34.size hs_l (by omega) (by omega))) <| s_val (x_ld (p := vat v_l 1 (Int.toNat (((s3 : Int) + 1) % (l.length : Int)))) (v := I (l.getD (Int.toNat (((s3 : Int) + 1) % (l.length : Int))) 0)) rfl (ld_sc Sc3 (At.mono (Int_at hs_l (i := ((s3 : Int) + 1) % (l.length : Int)) (by omega) (by omega)) (hC_l.at H)))) <| sA (I (l.getD (Int.toNat (((s3 : Int) + 1) % (l.length : Int))) 0)) rfl <| sA (B false) rfl <| s_nil <| W.seq <| sQ rfl <| sM v_w_ rfl <| sM (I (l.getD s3 0)) rfl ?_
  obtain ⟨sd20z, hM⟩ := M.e_gd hM
  refine s_val (x_ix (a := v_w_) (b := I (l.getD s3 0)) (v := vat v_w_ 3 (Int.toNat (l.getD s3 0))) rfl rfl (Sl.ix (α := Work) T22.und T22.size hs_w_ (by omega) (by omega))) <| s_val (x_fa (a := vat v_w_ 3 (Int.toNat (l.getD s3 0))) (v := fat (vat v_w_ 3 (Int.toNat (l.getD s3 0))) 0) rfl (fa_pl Fd60_0 Sz34 (Sl.pl (i := l.getD s3 0) hs_w_ (by omega) (by omega)))) ?_
  obtain ⟨u21z, ha_u21z, hs22z⟩ := Work_at0 hs_w_ (i := l.getD s3 0) (by omega) (by omega)
  replace hs22z : Sl _ u21z (w_.getD (Int.toNat (l.getD s3 0)) default).of := hs22z
  have hl_hs22z := hs22z.len_le
  refine s_val (x_ld (p := fat (vat v_w_ 3 (Int.toNat (l.getD s3 0))) 0) (v := u21z) rfl (ld_sc Sc34 (At.mono (ha_u21z) (hC_w_.at H)))) ?_
  have hl23z := (hs22z).len_le
  refine s_val (x_lenS T34.und rfl hs22z) <| sM (I 0) rfl <| s_nil <| W.block ?_
  obtain ⟨ex24z, hi25z, hk26z⟩ := M.e_bind hM
  obtain ⟨m0_, hi25z⟩ := M.e_iter hi25z
  refine W.loop (fun m σ W => ∃ (there : Bool) (s : Nat) (ρ : Env), σ = upds ρ [(0, v_w_), (1, v_l), (5, I (s3 : Int)), (6, I (l.getD s3 0)), (7, I (l.getD (Int.toNat (((s3 : Int) + 1) % (l.length : Int))) 0)), (8, B there), (12, v_l), (13, I (l.length : Int)), (14, I (s3 : Int)), (22, gd (!(decide ((l.getD s3 0) < 0))) (I (l.getD s3 0))), (23, gd (!(decide ((l.getD s3 0) < 0))) v_w_), (24, gd (!(decide ((l.getD s3 0) < 0))) (I (w_.length : Int))), (25, gd (!(decide ((l.getD s3 0) < 0))) (B (decide ((w_.length : Int) ≤ (l.getD s3 0))))), (39, u21z), (40, I (((w_.getD (Int.toNat (l.getD s3 0)) default).of).length : Int)), (41, I (s : Int))] ∧ M.iterN (m_nilometerlaw13_circle_b2 w_ l s3) m (there, s) = some ex24z ∧ St w W [] R) ?_ ?_
  ·exact ⟨_, false, 0, _, upds_of _ _ ⟨rfl, rfl, rfl, rfl, rfl, rfl, rfl, rfl, rfl, rfl, rfl, rfl, rfl, rfl, rfl, rfl, trivial⟩, hi25z, H⟩
  rintro m29z σ w27z ⟨there, s, ρ, rfl, hI28z, H⟩
  obtain ⟨m30z, lt31z, x32z, hM, hN33z⟩ := M.e_iterN hI28z
  simp only [m_nilometerlaw13_circle_b2] at hM
  clear hI28z
  refine sQ rfl <| sC (s : Int) (((w_.getD (Int.toNat (l.getD s3 0)) default).of).length : Int) (decide ((s : Int) < (((w_.getD (Int.toNat (l.getD s3 0)) default).of).length : Int))) rfl rfl rfl <| s_nil <| W.seq ?_
  refine W.cond (decide ((s : Int) < (((w_.getD (Int.toNat (l.getD s3 0)) default).of).length : Int))) rfl (fun c34z => ?_) (fun c34z => ?_)
  ·replace hM := M.e_t hM c34z
   simp only [qz1, qz2, qz3, qz4, qz5, qz6, ne_eq, qz7] at c34z
   refine W.skip <| W.seq <| W.block <| sQ rfl ?_
   obtain ⟨sd35z, hM⟩ := M.e_gd hM
   refine s_val (x_ix (a := u21z) (b := I (s : Int)) (v := vat u21z 1 (Int.toNat (s : Int))) rfl rfl (Sl.ix (α := Int) T34.und T34.size hs22z (by omega) (by omega))) <| s_val (x_ld (p := vat u21z 1 (Int.toNat (s : Int))) (v := I (((w_.getD (Int.toNat (l.getD s3 0)) default).of).getD s 0)) rfl (ld_sc Sc3 (At.mono (Int_at hs22z (i := (s : Int)) (by omega) (by omega)) (hC_w_.at H)))) <| sA (I (((w_.getD (Int.toNat (l.getD s3 0)) default).of).getD s 0)) rfl <| s_nil <| W.region rfl <| sM (B there) rfl <| sM (B there) rfl <| g_val (!there) (gy_f rfl) (fun hg => x_mv (v := I (((w_.getD (Int.toNat (l.getD s3 0)) default).of).getD s 0)) rfl) <| g_val (!there) (gy_f rfl) (fun hg => x_mv (v := I (l.getD (Int.toNat (((s3 : Int) + 1) % (l.length : Int))) 0)) rfl) <| g_val (!there) (gy_f rfl) (fun hg => x_cmp (kd := .i64) (a := ((w_.getD (Int.toNat (l.getD s3 0)) default).of).getD s 0) (b := l.getD (Int.toNat (((s3 : Int) + 1) % (l.length : Int))) 0) (r := (((w_.getD (Int.toNat (l.getD s3 0)) default).of).getD s 0) == (l.getD (Int.toNat (((s3 : Int) + 1) % (l.length : Int))) 0)) (gd_of (c := !there) hg (I (((w_.getD (Int.toNat (l.getD s3 0)) default).of).getD s 0))) (gd_of (c := !there) hg (I (l.getD (Int.toNat (((s3 : Int) + 1) % (l.length : Int))) 0))) rfl) <| s_val (x_por (b := there) (r := (((w_.getD (Int.toNat (l.getD s3 0)) default).of).getD s 0) == (l.getD (Int.toNat (((s3 : Int) + 1) % (l.length : Int))) 0)) rfl rfl (fun hb => gd_of (c := !there) (by first | exact hb | (rw [hb]; rfl) | simp_all) (B ((((w_.getD (Int.toNat (l.getD s3 0)) default).of).getD s 0) == (l.getD (Int.toNat (((s3 : Int) + 1) % (l.length : Int))) 0))))) <| sA (B (there || ((((w_.getD (Int.toNat (l.getD s3 0)) default).of).getD s 0) == (l.getD (Int.toNat (((s3 : Int) + 1) % (l.length : Int))) 0)))) rfl ?_
   refine s_nil <| W.region rfl <| sR (s : Int) 1 ((s : Int) + 1) rfl rfl rfl (by omega) <| sM (I ((s : Int) + 1)) rfl <| s_nil ?_
   exact ⟨m30z, lt31z, (there || ((((w_.getD (Int.toNat (l.getD s3 0)) default).of).getD s 0) == (l.getD (Int.toNat (((s3 : Int) + 1) % (l.length : Int))) 0))), s + 1, _, upds_of _ _ ⟨rfl, rfl, rfl, rfl, rfl, rfl, rfl, rfl, rfl, rfl, rfl, rfl, rfl, rfl, rfl, rfl, trivial⟩, M.e_inl hM hN33z, H⟩
  replace hM := M.e_f hM c34z
  simp only [qz1, qz2, qz3, qz4, qz5, qz6, ne_eq, qz7] at c34z
  refine W.exit ?_
  have hX36z := M.e_inr hM hN33z
  subst hX36z
  replace hM := hk26z
  try dsimp only at hM
  refine W.seq <| sQ rfl <| sM (I (s3 : Int)) rfl <| sM (I 0) rfl <| s_nil <| W.block ?_
  obtain ⟨ex37z, hi38z, hk39z⟩ := M.e_bind hM
  obtain ⟨m0_, hi38z⟩ := M.e_iter hi38z
  refine W.loop (fun m σ W => ∃ (s2 : Nat) (ρ : Env), σ = upds ρ [(0, v_w_), (1, v_l), (6, I (l.getD s3 0)), (8, B there), (12, v_l), (13, I (l.length : Int)), (14, I (s3 : Int)), (22, gd (!(decide ((l.getD s3 0) < 0))) (I (l.getD s3 0))), (23, gd (!(decide ((l.getD s3 0) < 0))) v_w_), (24, gd (!(decide ((l.getD s3 0) < 0))) (I (w_.length : Int))), (25, gd (!(decide ((l.getD s3 0) < 0))) (B (decide ((w_.length : Int) ≤ (l.getD s3 0))))), (52, I (s3 : Int)), (53, I (s2 : Int))] ∧ M.iterN (m_nilometerlaw13_circle_b3 l s3) m s2 = some ex37z ∧ St w W [] R) ?_ ?_
  ·exact ⟨_, 0, _, upds_of _ _ ⟨rfl, rfl, rfl, rfl, rfl, rfl, rfl, rfl, rfl, rfl, rfl, rfl, rfl, trivial⟩, hi38z, H⟩
  rintro m42z σ w40z ⟨s2, ρ, rfl, hI41z, H⟩
  obtain ⟨m43z, lt44z, x45z, hM, hN46z⟩ := M.e_iterN hI41z
  simp only [m_nilometerlaw13_circle_b3] at hM
  clear hI41z
  refine sQ rfl <| sC (s2 : Int) (s3 : Int) (decide ((s2 : Int) < (s3 : Int))) rfl rfl rfl <| s_nil <| W.seq ?_
  refine W.cond (decide ((s2 : Int) < (s3 : Int))) rfl (fun c47z => ?_) (fun c47z => ?_)
  ·replace hM := M.e_t hM c47z
   simp only [qz1, qz2, qz3, qz4, qz5, qz6, ne_eq, qz7] at c47z
   refine W.skip <| W.seq <| W.block <| sQ rfl <| sM (I (s2 : Int)) rfl <| sA (I (s2 : Int)) rfl <| s_nil <| sQ rfl <| sM v_l rfl <| sM (I (s2 : Int)) rfl ?_
   obtain ⟨sd48z, hM⟩ := M.e_gd hM
   refine s_val (x_ix (a := v_l) (b := I (s2 : Int)) (v := vat v_l 1 (Int.toNat (s2 : Int))) rfl rfl (Sl.ix (α := Int) T34.und T34.size hs_l (by omega) (by omega))) <| s_val (x_ld (p := vat v_l 1 (Int.toNat (s2 : Int))) (v := I (l.getD s2 0)) rfl (ld_sc Sc3 (At.mono (Int_at hs_l (i := (s2 : Int)) (by omega) (by omega)) (hC_l.at H)))) <| sM (I (l.getD s3 0)) rfl <| sC (l.getD s2 0) (l.getD s3 0) ((l.getD s2 0) == (l.getD s3 0)) rfl rfl rfl <| s_nil ?_
   refine W.cond ((l.getD s2 0) == (l.getD s3 0)) rfl (fun c49z => ?_) (fun c49z => ?_)
   ·replace hM := M.e_t hM c49z
    simp only [qz1, qz2, qz3, qz4, qz5, qz6, ne_eq, qz7] at c49z
    refine sQ rfl <| sA (B false) rfl <| s_nil ?_
    refine W.ret ?_
    have hX50z := M.e_inr hM hN46z
    subst hX50z
    replace hM := hk39z
    try dsimp only at hM
    have hX51z := M.e_inr hM hN11z
    subst hX51z
    replace hM := hk4z
    try dsimp only at hM
    have hr_ := M.e_pure hM
    exact ⟨_, resE_tmp rfl, ⟨false, hr_, rfl, H⟩⟩
   replace hM := M.e_f hM c49z
   simp only [qz1, qz2, qz3, qz4, qz5, qz6, ne_eq, qz7] at c49z
   refine W.skip <| W.region rfl <| sR (s2 : Int) 1 ((s2 : Int) + 1) rfl rfl rfl (by omega) <| sM (I ((s2 : Int) + 1)) rfl <| s_nil ?_
   exact ⟨m43z, lt44z, s2 + 1, _, upds_of _ _ ⟨rfl, rfl, rfl, rfl, rfl, rfl, rfl, rfl, rfl, rfl, rfl, rfl, rfl, trivial⟩, M.e_inl hM hN46z, H⟩
  replace hM := M.e_f hM c47z
  simp only [qz1, qz2, qz3, qz4, qz5, qz6, ne_eq, qz7] at c47z
  refine W.exit ?_
  have hX52z := M.e_inr hM hN46z
  subst hX52z
  replace hM := hk39z
  try dsimp only at hM
  refine sQ rfl <| sM (B there) rfl <| s_val (x_not (b := there) rfl) <| s_nil ?_
  refine W.cond (!there) rfl (fun c53z => ?_) (fun c53z => ?_)
  ·replace hM := M.e_t hM c53z
   refine sQ rfl <| sA (B false) rfl <| s_nil ?_
   refine W.ret ?_
   have hX54z := M.e_inr hM hN11z
   subst hX54z
   replace hM := hk4z
   try dsimp only at hM
   have hr_ := M.e_pure hM
   exact ⟨_, resE_tmp rfl, ⟨false, hr_, rfl, H⟩⟩
  replace hM := M.e_f hM c53z
  refine W.skip <| W.region rfl <| sR (s3 : Int) 1 ((s3 : Int) + 1) rfl rfl rfl (by omega) <| sM (I ((s3 : Int) + 1)) rfl <| s_nil ?_
  exact ⟨m8z, lt9z, s3 + 1, _, upds_of _ _ ⟨rfl, rfl, rfl, rfl, rfl, trivial⟩, M.e_inl hM hN11z, H⟩
 replace hM := M.e_f hM c12z
 simp only [qz1, qz2, qz3, qz4, qz5, qz6, ne_eq, qz7] at c12z
 refine W.exit ?_
 have hX55z := M.e_inr hM hN11z
 subst hX55z
 replace hM := hk4z
 try dsimp only at hM
 refine sQ rfl <| sM v_l rfl ?_
 have hl56z := (hs_l).len_le
 refine s_val (x_lenS T34.und rfl hs_l) <| sC (l.length : Int) 0 (decide (0 < (l.length : Int))) rfl rfl rfl <| sA (B (decide (0 < (l.length : Int)))) rfl <| s_nil ?_
 refine W.ret ?_
 have hr_ := M.e_pure hM
 exact ⟨_, resE_tmp rfl, ⟨(decide (0 < (l.length : Int))), hr_, rfl, H⟩⟩

end Go.Proofs.Ytndobgodeicloaa
end
namespace Go.Nm
variable {ws : List Work}
/-- Each of some works is made of the next one. -/
def Pth (ws : List Work) (l : List Int) : Prop := ∀ j, j + 1 < l.length → l.getD (j + 1) 0 ∈ (ws.getD (l.getD j 0).toNat default).of
/-- A circle. -/
structure Circ (ws : List Work) (l : List Int) : Prop where
  pos : 0 < l.length
  rng : ∀ x ∈ l, 0 ≤ x ∧ x < (ws.length : Int)
  once : l.Nodup
  pth : Pth ws l
  shut : l.getD 0 0 ∈ (ws.getD (l.getD (l.length - 1) 0).toNat default).of
theorem stuck_out (h : (orderP ws).length < ws.length) : nextR ws (orderP ws) = none := orderF_stuck ws.length [] (by simpa [orderP] using h)
theorem stuck_not (hs : nextR ws (orderP ws) = none) {i : Nat} (hi : i < ws.length) : readyAt ws (orderP ws) i = false := by
  unfold nextR at hs
  rw [List.find?_eq_none] at hs
  simpa using hs i (List.mem_range.2 hi)
/-- What is met on the way. -/
structure MetOk (ws : List Work) (met : List Int) (i : Int) : Prop where
  rng : ∀ x ∈ met, 0 ≤ x ∧ x < (ws.length : Int)
  once : met.Nodup
  pth : Pth ws met
  last : 0 < met.length → i ∈ (ws.getD (met.getD (met.length - 1) 0).toNat default).of
  i0 : 0 ≤ i
  i1 : i < (ws.length : Int)
  iO : i ∉ orderP ws
theorem clL {l r : List Int} {j : Nat} (h : j < l.length) : (l ++ r).getD j 0 = l.getD j 0 := by
  rw [List.getD_eq_getElem?_getD, List.getElem?_append_left h, ← List.getD_eq_getElem?_getD]
theorem clR {l : List Int} {x : Int} : (l ++ [x]).getD l.length 0 = x := by
  rw [List.getD_eq_getElem?_getD, List.getElem?_append_right (Nat.le_refl _)]
  simp
theorem clD {l : List Int} (k j : Nat) : (l.drop k).getD j 0 = l.getD (k + j) 0 := by
  rw [List.getD_eq_getElem?_getD, List.getElem?_drop, ← List.getD_eq_getElem?_getD]
theorem MetOk.circ {met : List Int} {i : Int} (h : MetOk ws met i) (hm : i ∈ met) : Circ ws (met.drop (idxI met i).toNat) := by
  obtain ⟨k0, k1, k2⟩ := idxI_spec hm
  have hk : (idxI met i).toNat < met.length := by omega
  generalize hkk : (idxI met i).toNat = k at hk k2 ⊢
  refine ⟨by rw [List.length_drop]; omega, fun x hx => h.rng x (List.mem_of_mem_drop hx), h.once.sublist (List.drop_sublist _ _), fun j hj => ?_, ?_⟩
  · rw [List.length_drop] at hj
    rw [clD, clD]
    exact h.pth (k + j) (by omega)
  · rw [clD, clD, List.length_drop, Nat.add_zero, k2, show k + (met.length - k - 1) = met.length - 1 from by omega]
    exact h.last (by omega)
theorem MetOk.next {met : List Int} {i y : Int} (h : MetOk ws met i) (hm : i ∉ met) (hy : y ∈ (ws.getD i.toNat default).of) (h0 : 0 ≤ y) (h1 : y < (ws.length : Int)) (hO : y ∉ orderP ws) : MetOk ws (met ++ [i]) y := by
  refine ⟨fun x hx => ?_, ?_, fun j hj => ?_, fun _ => ?_, h0, h1, hO⟩
  · rcases List.mem_append.1 hx with hx | hx
    · exact h.rng x hx
    · rw [List.mem_singleton.1 hx]; exact ⟨h.i0, h.i1⟩
  · rw [List.nodup_append]
    exact ⟨h.once, by simp, fun a ha b hb e => hm (by rw [← List.mem_singleton.1 hb, ← e]; exact ha)⟩
  · simp only [List.length_append, List.length_cons, List.length_nil] at hj
    rw [clL (by omega : j < met.length)]
    by_cases e : j + 1 < met.length
    · rw [clL e]
      exact h.pth j e
    · have e2 : j + 1 = met.length := by omega
      rw [e2, clR, show j = met.length - 1 from by omega]
      exact h.last (by omega)
  · rw [show (met ++ [i]).length - 1 = met.length from by simp, clR]
    exact hy
theorem MetOk.lt {met : List Int} {i : Int} (h : MetOk ws met i) (hm : i ∉ met) : met.length < ws.length := by
  have := nodup_bound ws.length (i :: met) (List.nodup_cons.2 ⟨hm, h.once⟩) (fun x hx => by
    rcases List.mem_cons.1 hx with rfl | hx
    · exact ⟨h.i0, h.i1⟩
    · exact h.rng x hx)
  simp only [List.length_cons] at this
  omega
end Go.Nm
namespace Go.Proofs.Ytndobgodeicloaa
open Go Go.Nm
variable {ws : List Work}
theorem webOrder_ends (hR : rightE ws = 0) : (m_notes_web_order ws).Ends (orderP ws) := by
  have hl := right_len hR
  unfold m_notes_web_order
  have h := M.i_loopQ (body := m_notes_web_order_b0 ws) (fun r => r.2 = orderP ws)
    (fun m s => ∃ i : Nat, s.1 = (i : Int) ∧ i ≤ ws.length ∧ m = (ws.length - s.2.length) * (ws.length + 2) + (ws.length + 1 - i) ∧ OrdInv ws s.2 ∧ ∀ j < i, readyAt ws s.2 j = false) (by
      rintro m ⟨x, l⟩ ⟨i, rfl, hi, rfl, hI, hn⟩
      dsimp only at hI hn ⊢
      simp only [m_notes_web_order_b0]
      have hle := hI.le
      by_cases e : i < ws.length
      · have he := every_ends (s := (ws.getD i default).of) (f := fun xqz => m_notes_web_order_1 xqz l) (p := fun k => l.contains k) (fun x _ => M.i_pure)
        have hop : (M.opt (!(l.contains (i : Int))) (m_notes_every_int (fun xqz => m_notes_web_order_1 xqz l) ((ws.getD (Int.toNat (i : Int)) default).of)) false).Ends ((!(l.contains (i : Int))) && (ws.getD i default).of.all fun k => l.contains k) := by
          refine M.i_opt (fun hb => ?_) (fun hb => ?_)
          · rw [hb, Bool.true_and, Int.toNat_natCast]; exact he
          · rw [hb]; rfl
        have hrd : ((!(l.contains (i : Int))) && ((!(l.contains (i : Int))) && (ws.getD i default).of.all fun k => l.contains k)) = readyAt ws l i := by
          unfold readyAt
          cases l.contains (i : Int) <;> rfl
        cases hr : readyAt ws l i with
        | true =>
          have hlt := hI.lt (by omega) hr
          refine .inl ⟨(0, l ++ [(i : Int)]), (ws.length - (l.length + 1)) * (ws.length + 2) + (ws.length + 1 - 0), order_dec hlt hi, ?_, 0, rfl, Nat.zero_le _, by simp, hI.step (by omega) hr hn, fun j hj => by omega⟩
          refine M.i_t (by simpa using e) (M.i_bind (a := l.contains (i : Int)) M.i_pure (M.i_grd (gOr2 (by omega) (by omega)) (M.i_bind hop (M.i_t (by rw [hrd, hr]) (M.grdD (by simp only [List.length_cons, List.length_nil]; omega) (M.i_grd (gA2 (by omega) (by omega)) ?_))))))
          exact M.i_pure
        | false =>
          refine .inl ⟨((i : Int) + 1, l), (ws.length - l.length) * (ws.length + 2) + (ws.length + 1 - (i + 1)), by omega, ?_, i + 1, by omega, e, rfl, hI, notReady_next hn hr⟩
          exact M.i_t (by simpa using e) (M.i_bind (a := l.contains (i : Int)) M.i_pure (M.i_grd (gOr2 (by omega) (by omega)) (M.i_bind hop (M.i_f (by rw [hrd, hr]) (M.i_grd (gA2 (by omega) (by omega)) M.i_pure)))))
      · exact .inr ⟨(l, l), M.i_f (by simpa using e) M.i_pure, hI.done (by omega) hn⟩) _ (0, []) ⟨0, rfl, Nat.zero_le _, rfl, OrdInv.nil ws, fun j hj => by omega⟩
  obtain ⟨⟨r1, r2⟩, h1, h2⟩ := h
  dsimp only at h2
  rw [← h2]
  exact M.i_bind h1 M.i_pure
theorem indexFunc_out {s : List Int} {f : Int → M Bool} {p : Int → Bool} (hf : ∀ x ∈ s, (f x).Ends (p x)) (hp : s.any p = true) :
    (m_slices_IndexFunc_int s f).Out (fun r => 0 ≤ r ∧ r < (s.length : Int) ∧ p (s.getD r.toNat 0) = true) := by
  have h := M.i_loopQ (body := m_slices_IndexFunc_int_b0 s f) (fun r => match r with | .inl k => 0 ≤ k ∧ k < (s.length : Int) ∧ p (s.getD k.toNat 0) = true | .inr _ => s.any p = false)
    (fun m i => m = s.length - i ∧ i ≤ s.length ∧ (s.take i).any p = false) (by
      rintro m i ⟨rfl, hi, ha⟩
      simp only [m_slices_IndexFunc_int_b0]
      by_cases e : i < s.length
      · have hp := hf _ (getD_memN s (by omega : (i : Int) < _) 0)
        cases hc : p (s.getD i 0) with
        | true =>
          rw [hc] at hp
          exact .inr ⟨.inl (i : Int), M.i_t (by simpa using e) (M.grdD (by omega) (M.i_bind hp M.i_pure)), by omega, by omega, by rw [Int.toNat_natCast]; exact hc⟩
        | false =>
          rw [hc] at hp
          exact .inl ⟨i + 1, s.length - (i + 1), by omega, M.i_t (by simpa using e) (M.grdD (by omega) (M.i_bind hp M.i_pure)), rfl, e, by rw [any_take_succ p s e 0, ha, hc]; rfl⟩
      · obtain rfl : i = s.length := by omega
        rw [List.take_length] at ha
        exact .inr ⟨.inr (), M.i_f (by simp) M.i_pure, ha⟩) _ 0 ⟨rfl, Nat.zero_le _, by simp⟩
  obtain ⟨r, h1, h2⟩ := h
  cases r with
  | inl k => exact ⟨k, M.i_bind h1 M.i_pure, h2⟩
  | inr u => dsimp only at h2; rw [hp] at h2; cases h2
theorem circle_out (hR : rightE ws = 0) (hs : nextR ws (orderP ws) = none) : ∀ (d : Nat) (met : List Int) (i : Int), ws.length - met.length ≤ d → MetOk ws met i →
    (m_notes_Circle_1 i met ws (orderP ws)).Out (fun r => Circ ws r.1) := by
  have hl := right_len hR
  intro d
  induction d with
  | zero =>
    intro met i hd hm
    -- all works were met
    have hin : i ∈ met := Classical.byContradiction fun hn => by have := hm.lt hn; omega
    suffices h : (m_notes_Circle_1_F (M.fix m_notes_Circle_1_F m_notes_Circle_1_mon) (i, met, ws, orderP ws)).Out (fun r => Circ ws r.1) by
      obtain ⟨r, h2, h3⟩ := h
      exact ⟨r, M.i_fix h2, h3⟩
    obtain ⟨k0, k1, k2⟩ := idxI_spec hin
    have hb := nodup_bound ws.length met hm.once hm.rng
    simp only [m_notes_Circle_1_F, m_slices_Clone_int]
    refine M.o_t (by simp only [bne_iff_ne, ne_eq]; omega) (M.o_grd (gA2 (by omega) (by omega)) (M.o_bindE (a := met.drop (idxI met i).toNat) (M.grdD (by rw [List.length_drop]; omega) (M.grdD (by simp only [List.length_nil, List.length_drop]; omega) M.i_pure)) (M.o_pure (hm.circ hin))))
  | succ d ih =>
    intro met i hd hm
    suffices h : (m_notes_Circle_1_F (M.fix m_notes_Circle_1_F m_notes_Circle_1_mon) (i, met, ws, orderP ws)).Out (fun r => Circ ws r.1) by
      obtain ⟨r, h2, h3⟩ := h
      exact ⟨r, M.i_fix h2, h3⟩
    have hb := nodup_bound ws.length met hm.once hm.rng
    simp only [m_notes_Circle_1_F, m_slices_Clone_int]
    by_cases hin : i ∈ met
    · obtain ⟨k0, k1, k2⟩ := idxI_spec hin
      exact M.o_t (by simp only [bne_iff_ne, ne_eq]; omega) (M.o_grd (gA2 (by omega) (by omega)) (M.o_bindE (a := met.drop (idxI met i).toNat) (M.grdD (by rw [List.length_drop]; omega) (M.grdD (by simp only [List.length_nil, List.length_drop]; omega) M.i_pure)) (M.o_pure (hm.circ hin))))
    · have hix : idxI met i = -1 := by
        have h1 := idxI_any met i
        rw [show met.contains i = false from by simpa using hin] at h1
        simp only [decide_eq_false_iff_not] at h1
        have h2 : -1 ≤ idxI met i := idxP_lo _ _
        omega
      have hlt := hm.lt hin
      have hi0 := hm.i0
      have hi1 := hm.i1
      have hnr := stuck_not hs (i := i.toNat) (by omega)
      unfold readyAt at hnr
      have h2 : (orderP ws).contains ((i.toNat : Nat) : Int) = false := by rw [Int.toNat_of_nonneg hi0]; simpa using hm.iO
      rw [h2, Bool.not_false, Bool.true_and, List.all_eq_false] at hnr
      obtain ⟨x, hx, hx2⟩ := hnr
      have hany : ((ws.getD i.toNat default).of.any fun k => !((orderP ws).contains k)) = true := List.any_eq_true.2 ⟨x, hx, by simpa using hx2⟩
      refine M.o_f (by rw [hix]; rfl) (M.o_grdD (by simp only [List.length_cons, List.length_nil]; omega) (M.o_grd (gA2 hi0 hi1) (M.o_bind (indexFunc_out (p := fun k => !((orderP ws).contains k)) (fun x _ => M.i_pure) hany) ?_)))
      rintro r ⟨r0, r1, r2⟩
      have hym := getD_memN (ws.getD i.toNat default).of (i := r.toNat) (by omega) 0
      have hyr := right_of hR (i := i.toNat) (by omega) _ hym
      have hyO : (ws.getD i.toNat default).of.getD r.toNat 0 ∉ orderP ws := by simpa using r2
      refine M.o_grd (gA2 r0 r1) (M.o_bind (ih (met ++ [i]) _ (by simp only [List.length_append, List.length_cons, List.length_nil]; omega) (hm.next hin hym hyr.1 hyr.2.1 hyO)) ?_)
      rintro ⟨l, m⟩ hc
      exact M.o_pure hc
theorem circle_found (hR : rightE ws = 0) (h : (orderP ws).length < ws.length) : (m_notes_Circle ws).Out (fun r => r.2 = 0 ∧ Circ ws r.1) := by
  have hs := stuck_out h
  have hl := right_len hR
  have start : ∃ i, i < ws.length ∧ (i : Int) ∉ orderP ws := by
    refine Classical.byContradiction fun hc => ?_
    have h1 : ∀ i, i < ws.length → (i : Int) ∈ orderP ws := fun i hi => Classical.byContradiction fun hn => hc ⟨i, hi, hn⟩
    have h2 : ((List.range ws.length).map fun i : Nat => (i : Int)).length ≤ (orderP ws).length := by
      refine nodup_sub _ _ ?_ ?_
      · rw [List.Nodup, List.pairwise_map]
        exact List.nodup_range.imp fun hne e => hne (by omega)
      · intro x hx
        obtain ⟨i, hi, rfl⟩ := List.mem_map.1 hx
        exact h1 i (List.mem_range.1 hi)
    simp at h2
    omega
  obtain ⟨i0, hi0, hn0⟩ := start
  unfold m_notes_Circle
  refine M.o_f (by rw [hR]; rfl) (M.o_bindE (webOrder_ends hR) (M.o_bind (P := fun r => match r with | .inl (l, _) => Circ ws l | .inr _ => False) ?_ ?_))
  · refine M.o_for ws.length (fun i s => s = i ∧ ∀ j < i, (j : Int) ∈ orderP ws) ?_ ?_ (s := 0) ⟨rfl, fun j hj => by omega⟩
    · rintro i s hi ⟨rfl, hj⟩
      simp only [m_notes_Circle_b0]
      refine M.o_t (by simpa using hi) ?_
      cases hc : (orderP ws).contains (s : Int) with
      | true =>
        refine M.o_f rfl (M.o_pure ⟨rfl, fun j hj2 => ?_⟩)
        by_cases e : j = s
        · subst e; simpa using hc
        · exact hj j (by omega)
      | false =>
        refine M.o_t rfl (M.o_bind (circle_out hR hs ws.length [] (s : Int) (by simp) ⟨fun x h => by simp at h, List.nodup_nil, fun j hj => by simp at hj, fun h => by simp at h, by omega, by omega, by simpa using hc⟩) ?_)
        rintro ⟨l, m⟩ hq
        exact M.o_pure hq
    · rintro s ⟨rfl, hj⟩
      exact absurd (hj i0 hi0) hn0
  · rintro (⟨l, m⟩ | u) hq
    · exact M.o_pure ⟨rfl, hq⟩
    · exact hq.elim
theorem circle_none (hO : openedE ws = 0) : (m_notes_Circle ws).Ends ([], 5) := by
  have hR := opened_right hO
  have hl := right_len hR
  have hall : ∀ i : Nat, i < ws.length → (orderP ws).contains (i : Int) = true := fun i hi => by
    rw [List.contains_iff_mem]
    exact order_all hO (by omega) (by omega)
  unfold m_notes_Circle
  have hit : (M.iter (m_notes_Circle_b0 ws (orderP ws)) 0).Ends (.inr ()) := by
    refine M.i_for (fun i => i) ws.length (fun i hi => ?_) ?_
    · simp only [m_notes_Circle_b0]
      rw [hall i hi]
      exact M.i_t (by simpa using hi) (M.i_f rfl M.i_pure)
    · simp only [m_notes_Circle_b0]
      exact M.i_f (by simp) M.i_pure
  exact M.i_f (by rw [hR]; rfl) (M.i_bind (webOrder_ends hR) (M.i_bind hit M.i_pure))
/-- The law's own look at a circle. -/
theorem isCircle {l : List Int} (h : Circ ws l) (hn : l.length ≤ 1000000) : (m_nilometerlaw13_circle ws l).Ends true := by
  have hp := h.pos
  unfold m_nilometerlaw13_circle
  refine M.i_bind (a := .inr ()) ?_ (by rw [show (true : Bool) = decide (0 < (l.length : Int)) from by simp; omega]; exact M.i_pure)
  refine M.i_for (fun i => i) l.length (fun i hi => ?_) ?_
  · have hm := h.rng _ (getD_memN l (by omega : (i : Int) < _) 0)
    have hm1 := hm.1
    have hm2 := hm.2
    -- the next one
    have hnx : l.getD (Int.toNat (((i : Int) + 1) % (l.length : Int))) 0 ∈ (ws.getD (Int.toNat (l.getD i 0)) default).of := by
      by_cases e : i + 1 < l.length
      · rw [Int.emod_eq_of_lt (by omega) (by omega), show ((i : Int) + 1).toNat = i + 1 from by omega]
        exact h.pth i e
      · obtain rfl : i = l.length - 1 := by omega
        rw [show (((l.length - 1 : Nat) : Int) + 1) = (l.length : Int) from by omega, Int.emod_self]
        exact h.shut
    have hmod0 := Int.emod_nonneg ((i : Int) + 1) (show (l.length : Int) ≠ 0 from by omega)
    have hmod1 := Int.emod_lt_of_pos ((i : Int) + 1) (show 0 < (l.length : Int) from by omega)
    have hth := M.i_for (body := m_nilometerlaw13_circle_b2 ws l i) (r := (ws.getD (Int.toNat (l.getD i 0)) default).of.any fun x => x == l.getD (Int.toNat (((i : Int) + 1) % (l.length : Int))) 0)
      (fun k => (((ws.getD (Int.toNat (l.getD i 0)) default).of.take k).any (fun x => x == l.getD (Int.toNat (((i : Int) + 1) % (l.length : Int))) 0), k)) (ws.getD (Int.toNat (l.getD i 0)) default).of.length (fun k hk => by
        simp only [m_nilometerlaw13_circle_b2]
        rw [any_take_succ _ _ hk 0]
        exact M.i_t (by simpa using hk) (M.grdD (by omega) M.i_pure)) (by
        simp only [m_nilometerlaw13_circle_b2, List.take_length]
        exact M.i_f (by simp) M.i_pure)
    have hth2 : ((ws.getD (Int.toNat (l.getD i 0)) default).of.any fun x => x == l.getD (Int.toNat (((i : Int) + 1) % (l.length : Int))) 0) = true := List.any_eq_true.2 ⟨_, hnx, by simp⟩
    rw [hth2] at hth
    have hno : (M.iter (m_nilometerlaw13_circle_b3 l i) 0).Ends (.inr ()) := by
      refine M.i_for (fun k => k) i (fun k hk => ?_) ?_
      · have hne : l.getD k 0 ≠ l.getD i 0 := fun e => by
          rw [getD_el l (by omega : k < l.length) 0, getD_el l hi 0] at e
          exact List.pairwise_iff_getElem.1 h.once k i (by omega) hi hk e
        simp only [m_nilometerlaw13_circle_b3]
        exact M.i_t (by simpa using hk) (M.grdD (by omega) (M.i_f (by simpa using hne) M.i_pure))
      · simp only [m_nilometerlaw13_circle_b3]
        exact M.i_f (by simp) M.i_pure
    simp only [m_nilometerlaw13_circle_b4]
    refine M.i_t (by simpa using hi) (M.grdD (by omega) (M.i_f (by simp only [Bool.or_eq_false_iff, decide_eq_false_iff_not]; omega) (M.i_grd (gA2 (by omega) (by omega)) (M.i_grd (gA2 hmod0 hmod1) (M.i_grd (gA2 hm1 hm2) (M.i_bind (by simpa using hth) (M.i_bind hno (M.i_f rfl M.i_pure))))))))
  · simp only [m_nilometerlaw13_circle_b4]
    exact M.i_f (by simp) M.i_pure
end Go.Proofs.Ytndobgodeicloaa
namespace Go.Nm
end Go.Nm
namespace Go.Proofs.Ytndobgodeicloaa
open Go Go.Nm
variable {ws : List Work}
structure RevOk (ws : List Work) (rv : List Int) : Prop where
  some : rv ≠ []
  asc : rv.Pairwise (· < ·)
  lt : ∀ x ∈ rv, 0 ≤ x ∧ x < (ws.length : Int)
  few : rv.length ≤ ws.length
theorem RevOk.asked {rv : List Int} (h : RevOk ws rv) (hO : openedE ws = 0) : askedE ws rv = 0 := by rw [asked_list hO]; exact listed_of h.lt h.asc
theorem webOf_ends {i : Int} (h0 : 0 ≤ i) (h1 : i < ws.length) (x : Int) : (m_notes_web_of ws i x).Ends ((ws.getD i.toNat default).of.contains x) := by
  unfold m_notes_web_of
  exact M.i_grd (gA2 h0 h1) M.i_pure
end Go.Proofs.Ytndobgodeicloaa
namespace Go.Nm
variable {ws : List Work}
/-- Was a work met? -/
def mt (m : Int → Option Bool) (x : Int) : Prop := (m x).getD false = true
theorem mt_upd (m : Int → Option Bool) (x y : Int) : mt (updF m x true) y ↔ y = x ∨ mt m y := by
  unfold mt updF
  by_cases e : y = x
  · rw [if_pos e]; exact ⟨fun _ => .inl e, fun _ => rfl⟩
  · rw [if_neg e]; exact ⟨fun h => .inr h, fun h => h.elim (fun h => absurd h e) id⟩
/-- Is a work made of another one? -/
def Succ (ws : List Work) (x y : Int) : Prop := 0 ≤ y ∧ y < (ws.length : Int) ∧ x ∈ (ws.getD y.toNat default).of
/-- What a search that finds nothing leaves. -/
structure Srch (ws : List Work) (m m' : Int → Option Bool) (to_ : Int) : Prop where
  up : ∀ x, mt m x → mt m' x
  cl : ∀ x, mt m' x → mt m x ∨ ∀ y, Succ ws x y → mt m' y
  no : ¬ mt m to_ → ¬ mt m' to_
theorem Srch.refl (m : Int → Option Bool) (to_ : Int) : Srch ws m m to_ := ⟨fun _ h => h, fun _ h => .inl h, fun h => h⟩
theorem Srch.trans {a b c : Int → Option Bool} {to_ : Int} (h : Srch ws a b to_) (k : Srch ws b c to_) : Srch ws a c to_ :=
  ⟨fun x hx => k.up x (h.up x hx), fun x hx => by
    rcases k.cl x hx with h1 | h1
    · rcases h.cl x h1 with h2 | h2
      · exact .inl h2
      · exact .inr fun y hy => k.up y (h2 y hy)
    · exact .inr h1, fun hn => k.no (h.no hn)⟩
/-- A line from one work to another one. -/
structure LineOk (ws : List Work) (a b : Int) (l : List Int) : Prop where
  line : lineB ws l = true
  rng : ∀ x ∈ l, 0 ≤ x ∧ x < (ws.length : Int)
  first : ∃ r, l = a :: r
  last : ∃ r, l = r ++ [b]
  len : (l.length : Int) ≤ ws.length - a
theorem LineOk.one {a : Int} (h0 : 0 ≤ a) (h1 : a < ws.length) : LineOk ws a a [a] := ⟨rfl, fun x hx => by rw [List.mem_singleton.1 hx]; exact ⟨h0, h1⟩, ⟨[], rfl⟩, ⟨[], rfl⟩, by simp; omega⟩
theorem LineOk.cons {a x b : Int} {l : List Int} (h0 : 0 ≤ a) (hs : Succ ws a x) (hx : a < x) (h : LineOk ws x b l) : LineOk ws a b ([a] ++ l) := by
  obtain ⟨r, hr⟩ := h.first
  obtain ⟨q, hq⟩ := h.last
  refine ⟨?_, fun y hy => ?_, ⟨l, rfl⟩, ⟨a :: q, by rw [hq]; rfl⟩, ?_⟩
  · have := h.line
    rw [hr] at this ⊢
    show ((ws.getD x.toNat default).of.contains a && lineB ws (x :: r)) = true
    rw [this, Bool.and_true, List.contains_iff_mem]
    exact hs.2.2
  · rcases List.mem_append.1 hy with hy | hy
    · rw [List.mem_singleton.1 hy]; exact ⟨h0, by have := hs.2.1; omega⟩
    · exact h.rng y hy
  · have := h.len
    simp only [List.length_append, List.length_cons, List.length_nil]
    omega
end Go.Nm
namespace Go.Proofs.Ytndobgodeicloaa
open Go Go.Nm
variable {ws : List Work}
theorem made_out' {T : Type} {y : T → Int → M (Bool × T)} {x : Int} (J : Nat → T → Prop) (Q : T → Prop)
    (step : ∀ i t, i < ws.length → J i t → x ∈ (ws.getD i default).of → (y t (i : Int)).Out (fun r => (r.1 = true ∧ J (i + 1) r.2) ∨ (r.1 = false ∧ Q r.2)))
    (skip : ∀ i t, i < ws.length → J i t → x ∉ (ws.getD i default).of → J (i + 1) t) {t0 : T} (h0 : J 0 t0) : (m_notes_web_made_1 y t0 ws x).Out (fun t => J ws.length t ∨ Q t) := by
  unfold m_notes_web_made_1
  refine M.o_bind (P := fun r => match r with | .inl t => Q t | .inr t => J ws.length t) ?_ ?_
  · refine M.o_for ws.length (fun i s => s.1 = i ∧ J i s.2) ?_ ?_ (s := (0, t0)) ⟨rfl, h0⟩
    · rintro i ⟨j, t⟩ hi ⟨rfl, hj⟩
      dsimp only at hi hj ⊢
      simp only [m_notes_web_made_1_b0]
      have ho := webOf_ends (ws := ws) (i := (j : Int)) (by omega) (by omega) x
      rw [Int.toNat_natCast] at ho
      refine M.o_t (by simpa using hi) (M.o_bindE ho ?_)
      cases hc : (ws.getD j default).of.contains x with
      | true =>
        rw [List.contains_iff_mem] at hc
        refine M.o_t rfl (M.o_bind (step j t hi hj hc) ?_)
        rintro ⟨go, t'⟩ hr
        dsimp only at hr ⊢
        rcases hr with ⟨rfl, hr⟩ | ⟨rfl, hr⟩
        · exact M.o_f rfl (M.o_pure ⟨rfl, hr⟩)
        · exact M.o_t rfl (M.o_pure hr)
      | false =>
        have hn : x ∉ (ws.getD j default).of := fun h => by rw [← List.contains_iff_mem] at h; rw [h] at hc; cases hc
        exact M.o_f rfl (M.o_f rfl (M.o_pure ⟨rfl, skip j t hi hj hn⟩))
    · rintro ⟨j, t⟩ ⟨rfl, hj⟩
      dsimp only at hj ⊢
      simp only [m_notes_web_made_1_b0]
      exact M.o_f (by simp) (M.o_pure hj)
  · rintro (t | t) h
    · exact M.o_pure (.inr h)
    · exact M.o_pure (.inl h)
theorem wy_closed {m : Int → Option Bool} (hc : ∀ x, mt m x → ∀ y, Succ ws x y → mt m y) {a b : Nat} (w : Wy ws a b) (ha : mt m (a : Int)) : mt m (b : Int) := by
  induction w with
  | one h hb => exact hc _ ha _ ⟨by omega, by omega, by rw [Int.toNat_natCast]; exact h⟩
  | more w h hb ih => exact hc _ ih _ ⟨by omega, by omega, by rw [Int.toNat_natCast]; exact h⟩
end Go.Proofs.Ytndobgodeicloaa
namespace Go.Nm
variable {ws : List Work}
/-- A line from one work to another one. -/
structure LineG (ws : List Work) (a b : Int) (l : List Int) : Prop where
  line : lineB ws l = true
  rng : ∀ x ∈ l, 0 ≤ x ∧ x < (ws.length : Int)
  first : ∃ r, l = a :: r
  last : ∃ r, l = r ++ [b]
  len : l.length + posO ws a ≤ ws.length
theorem LineG.one (hO : openedE ws = 0) {a : Int} (h0 : 0 ≤ a) (h1 : a < ws.length) : LineG ws a a [a] :=
  ⟨rfl, fun x hx => by rw [List.mem_singleton.1 hx]; exact ⟨h0, h1⟩, ⟨[], rfl⟩, ⟨[], rfl⟩, by have := posO_le (order_all hO h0 h1); simp; omega⟩
theorem LineG.cons {a x b : Int} {l : List Int} (h0 : 0 ≤ a) (h1 : a < ws.length) (hs : Succ ws a x) (hx : posO ws a < posO ws x) (h : LineG ws x b l) : LineG ws a b ([a] ++ l) := by
  obtain ⟨r, hr⟩ := h.first
  obtain ⟨q, hq⟩ := h.last
  refine ⟨?_, fun y hy => ?_, ⟨l, rfl⟩, ⟨a :: q, by rw [hq]; rfl⟩, ?_⟩
  · have := h.line
    rw [hr] at this ⊢
    show ((ws.getD x.toNat default).of.contains a && lineB ws (x :: r)) = true
    rw [this, Bool.and_true, List.contains_iff_mem]
    exact hs.2.2
  · rcases List.mem_append.1 hy with hy | hy
    · rw [List.mem_singleton.1 hy]; exact ⟨h0, h1⟩
    · exact h.rng y hy
  · have := h.len
    simp only [List.length_append, List.length_cons, List.length_nil]
    omega
end Go.Nm
namespace Go.Proofs.Ytndobgodeicloaa
open Go Go.Nm
variable {ws : List Work}
/-- What a search ends in. -/
def OnG (ws : List Work) (m : Int → Option Bool) (a to_ : Int) (r : List Int × (Int → Option Bool)) : Prop :=
  (r.1 ≠ [] ∧ LineG ws a to_ r.1) ∨ (r.1 = [] ∧ Srch ws m r.2 to_ ∧ mt r.2 a)
theorem on_outG (hO : openedE ws = 0) {to_ : Int} : ∀ (d : Nat) (a : Int) (m : Int → Option Bool), 0 ≤ a → a < ws.length → ws.length - posO ws a ≤ d →
    (m_notes_search_on ws (fun x => m_notes_Line_1 x) m a to_).Out (OnG ws m a to_) := by
  intro d
  induction d with
  | zero => intro a m h0 h1 hd; have := posO_le (order_all hO h0 h1); omega
  | succ d ih =>
    intro a m h0 h1 hd
    have h1' := h1
    have hlen := right_len (opened_right hO)
    have hpa := posO_le (order_all hO h0 h1)
    suffices h : (m_notes_search_on_F (M.fix m_notes_search_on_F m_notes_search_on_mon) (ws, (fun x => m_notes_Line_1 x), m, a, to_)).Out (OnG ws m a to_) by
      obtain ⟨r, h2, h3⟩ := h
      exact ⟨r, M.i_fix h2, h3⟩
    simp only [m_notes_search_on_F]
    refine M.o_if (fun hb => ?_) (fun hb => ?_)
    · have e : a = to_ := by simpa using hb
      subst e
      exact M.o_pure (.inl ⟨by simp, LineG.one hO h0 h1⟩)
    · have hne : a ≠ to_ := by simpa using hb
      refine M.o_bindE (M.i_pure : (m_notes_web_made ws a).Ends a) ?_
      refine M.o_bind (made_out' (x := a) (fun i t => ∃ mp, t = .inl mp ∧ Srch ws (updF m a true) mp to_ ∧ ∀ y : Nat, y < i → Succ ws a (y : Int) → mt mp (y : Int))
        (fun t => ∃ l mp, t = .inr (l, mp) ∧ l ≠ [] ∧ LineG ws a to_ l) ?_ ?_ ⟨_, rfl, Srch.refl _ _, fun y hy => by omega⟩) ?_
      · rintro i t hi ⟨mp, rfl, hs, hy⟩ hm
        have hsu : Succ ws a (i : Int) := ⟨by omega, by omega, by rw [Int.toNat_natCast]; exact hm⟩
        have hlt := posO_lt (order_all hO (i := (i : Int)) (by omega) (by omega)) (by rw [Int.toNat_natCast]; exact hm)
        have next : ∀ mp', Srch ws (updF m a true) mp' to_ → (∀ x, mt mp x → mt mp' x) → mt mp' (i : Int) → ∃ mp2, (Sum.inl mp' : (Int → Option Bool) ⊕ (List Int × (Int → Option Bool))) = .inl mp2 ∧ Srch ws (updF m a true) mp2 to_ ∧ ∀ y : Nat, y < i + 1 → Succ ws a (y : Int) → mt mp2 (y : Int) :=
          fun mp' h1 h2 h3 => ⟨mp', rfl, h1, fun y hy' hsy => by
            by_cases e : y = i
            · rw [e]; exact h3
            · exact h2 _ (hy y (by omega) hsy)⟩
        have call : (m_notes_search_on ws (fun x => m_notes_Line_1 x) mp (i : Int) to_).Out (OnG ws mp (i : Int) to_) := ih (i : Int) mp (by omega) (by omega) (by omega)
        have rest : (M.bind ((M.fix m_notes_search_on_F m_notes_search_on_mon) (ws, (fun x => m_notes_Line_1 x), mp, (i : Int), to_)) fun (r4, q_b_s_met) =>
            bif !r4.isEmpty then (
            M.grd (decide ((([(a : Int)]).length + r4.length) * 8 ≤ 140737488355328)) <|
            M.pure (.inr (([(a : Int)]) ++ r4, q_b_s_met)))
            else (
            M.pure (.inl q_b_s_met)) : M ((Int → Option Bool) ⊕ ((List Int) × (Int → Option Bool)))).Out (fun r => (∃ mp', r = .inl mp' ∧ Srch ws (updF m a true) mp' to_ ∧ (∀ x, mt mp x → mt mp' x) ∧ mt mp' (i : Int)) ∨ ∃ l mp', r = .inr (l, mp') ∧ l ≠ [] ∧ LineG ws a to_ l) := by
          refine M.o_bind call ?_
          rintro ⟨l, mp'⟩ hq
          rcases hq with ⟨h1, h2⟩ | ⟨h1, h2, h3⟩
          · dsimp only at h1 h2 ⊢
            have hll := h2.len
            refine M.o_t (by cases l with | nil => exact absurd rfl h1 | cons x l => rfl) (M.o_grdD (by simp only [List.length_cons, List.length_nil]; omega) (M.o_pure (.inr ⟨_, _, rfl, by simp, LineG.cons h0 h1' hsu hlt h2⟩)))
          · dsimp only at h1 h2 h3 ⊢
            subst h1
            exact M.o_f rfl (M.o_pure (.inl ⟨_, rfl, hs.trans h2, h2.up, h3⟩))
        have fin : ∀ {bd : (Int → Option Bool) → Int → M ((Int → Option Bool) ⊕ ((List Int) × (Int → Option Bool)))}, (bd mp (i : Int)).Out (fun r => (∃ mp', r = .inl mp' ∧ Srch ws (updF m a true) mp' to_ ∧ (∀ x, mt mp x → mt mp' x) ∧ mt mp' (i : Int)) ∨ ∃ l mp', r = .inr (l, mp') ∧ l ≠ [] ∧ LineG ws a to_ l) →
            (M.yl bd (.inl mp) (i : Int)).Out (fun r => (r.1 = true ∧ ∃ mp, r.2 = .inl mp ∧ Srch ws (updF m a true) mp to_ ∧ ∀ y : Nat, y < i + 1 → Succ ws a (y : Int) → mt mp (y : Int)) ∨ (r.1 = false ∧ ∃ l mp, r.2 = .inr (l, mp) ∧ l ≠ [] ∧ LineG ws a to_ l)) := by
          intro bd hk
          simp only [M.yl]
          refine M.o_bind hk ?_
          rintro r (⟨mp', rfl, h1, h2, h3⟩ | ⟨l, mp', rfl, h1, h2⟩)
          · exact M.o_pure (.inl ⟨rfl, next mp' h1 h2 h3⟩)
          · exact M.o_pure (.inr ⟨rfl, l, mp', rfl, h1, h2⟩)
        refine fin ?_
        simp only [m_notes_search_on_b0]
        cases hmt : (mp (i : Int)).getD false with
        | true =>
          exact M.o_f rfl (M.o_t rfl (M.o_pure (.inl ⟨mp, rfl, hs, fun x hx => hx, hmt⟩)))
        | false =>
          cases hto : ((i : Int) != to_) with
          | true =>
            exact M.o_t rfl (M.o_bindE (M.i_pure : (m_notes_Line_1 (i : Int)).Ends true) (M.o_f rfl rest))
          | false => exact M.o_f rfl (M.o_f rfl rest)
      · rintro i t hi ⟨mp, rfl, hs, hy⟩ hm
        refine ⟨mp, rfl, hs, fun y hy' hsy => ?_⟩
        by_cases e : y = i
        · subst e
          have := hsy.2.2
          rw [Int.toNat_natCast] at this
          exact absurd this hm
        · exact hy y (by omega) hsy
      · rintro t (⟨mp, rfl, hs, hy⟩ | ⟨l, mp, rfl, h1, h2⟩)
        · refine M.o_pure (.inr ⟨rfl, ⟨fun x hx => hs.up x ((mt_upd m a x).2 (.inr hx)), fun x hx => ?_, fun hn => hs.no fun h => ?_⟩, hs.up a ((mt_upd m a a).2 (.inl rfl))⟩)
          · rcases hs.cl x hx with h3 | h3
            · rcases (mt_upd m a x).1 h3 with rfl | h3
              · refine .inr fun y hy' => ?_
                have := hy y.toNat (by have := hy'.2.1; have := hy'.1; omega) (by rw [Int.toNat_of_nonneg hy'.1]; exact hy')
                rwa [Int.toNat_of_nonneg hy'.1] at this
              · exact .inl h3
            · exact .inr h3
          · rcases (mt_upd m a to_).1 h with h3 | h3
            · exact hne h3.symm
            · exact hn h3
        · refine M.o_grdD (by have := List.length_pos_iff.2 h1; omega) (M.o_pure (.inl ⟨h1, h2⟩))
theorem line_wayG : ∀ (l : List Int) (a b : Int), LineG ws a b l → a = b ∨ Wy ws a.toNat b.toNat
  | [], a, b, h => by obtain ⟨r, hr⟩ := h.first; cases hr
  | [x], a, b, h => by
    obtain ⟨r, hr⟩ := h.first
    obtain ⟨q, hq⟩ := h.last
    left
    have h1 : x = a := (List.cons.inj hr).1
    cases q with
    | nil => have h2 : x = b := (List.cons.inj hq).1; omega
    | cons y q => simp at hq
  | x :: y :: l, a, b, h => by
    obtain ⟨r, hr⟩ := h.first
    obtain ⟨q, hq⟩ := h.last
    have h1 : x = a := (List.cons.inj hr).1
    subst h1
    have hl := h.line
    simp only [lineB, Bool.and_eq_true] at hl
    have hm := hl.1
    rw [List.contains_iff_mem] at hm
    have hx := h.rng x (by simp)
    have hy := h.rng y (by simp)
    have hw : Wy ws x.toNat y.toNat := .one (by rw [Int.toNat_of_nonneg hx.1]; exact hm) (by omega)
    have hq2 : ∃ r, y :: l = r ++ [b] := by
      cases q with
      | nil => simp at hq
      | cons z q => exact ⟨q, (List.cons.inj hq).2⟩
    right
    -- the way goes on from y
    have key : ∀ (l : List Int) (y : Int), lineB ws (y :: l) = true → (∀ z ∈ y :: l, 0 ≤ z ∧ z < (ws.length : Int)) → (∃ r, y :: l = r ++ [b]) → Wy ws x.toNat y.toNat → Wy ws x.toNat b.toNat := by
      intro l
      induction l with
      | nil =>
        intro y _ _ hb hw
        obtain ⟨r, hr⟩ := hb
        cases r with
        | nil => rw [← (List.cons.inj hr).1]; exact hw
        | cons z r => simp at hr
      | cons z l ih =>
        intro y hl hr hb hw
        simp only [lineB, Bool.and_eq_true] at hl
        have hm := hl.1
        rw [List.contains_iff_mem] at hm
        have hy := hr y (by simp)
        have hz := hr z (by simp)
        refine ih z hl.2 (fun u hu => hr u (List.mem_cons_of_mem _ hu)) ?_ (.more hw (by rw [Int.toNat_of_nonneg hy.1]; exact hm) (by omega))
        obtain ⟨r, hr⟩ := hb
        cases r with
        | nil => simp at hr
        | cons u r => exact ⟨r, (List.cons.inj hr).2⟩
    exact key l y hl.2 (fun z hz => h.rng z (List.mem_cons_of_mem _ hz)) hq2 hw
/-- A line, or the error that there is none. -/
def LnG (ws : List Work) (a b : Int) (r : List Int × Int) : Prop := (r.2 = 0 ∧ LineG ws a b r.1 ∧ (a = b ∨ Wy ws a.toNat b.toNat)) ∨ (r = ([], 5) ∧ a ≠ b ∧ ¬ Wy ws a.toNat b.toNat)
theorem line_outG (hO : openedE ws = 0) {a b : Int} (a0 : 0 ≤ a) (a1 : a < ws.length) (b0 : 0 ≤ b) (b1 : b < ws.length) : (m_notes_Line ws a b).Out (LnG ws a b) := by
  unfold m_notes_Line
  have ha : inB a 0 ((ws.length : Int) - 1) = true := by unfold inB; simp only [Bool.and_eq_true, decide_eq_true_eq]; omega
  have hb : inB b 0 ((ws.length : Int) - 1) = true := by unfold inB; simp only [Bool.and_eq_true, decide_eq_true_eq]; omega
  refine M.o_t (by simp [hO]) (M.o_f rfl (M.o_f (by rw [ha, hb]; rfl) (M.o_bindE (M.i_pure : (m_notes_web_search ws (fun x => m_notes_Line_1 x)).Ends (fun _ => none)) ?_)))
  unfold m_notes_search_line
  refine M.o_bind (P := OnG ws (fun _ => none) a b) (M.o_bind (on_outG hO (to_ := b) ws.length a (fun _ => none) a0 a1 (by omega)) ?_) ?_
  · rintro ⟨l, m⟩ hq
    exact M.o_pure hq
  · rintro ⟨l, m⟩ hq
    rcases hq with ⟨h1, h2⟩ | ⟨h1, h2, h3⟩
    · dsimp only at h1 h2 ⊢
      exact M.o_t (by cases l with | nil => exact absurd rfl h1 | cons x l => rfl) (M.o_pure (.inl ⟨rfl, h2, line_wayG l a b h2⟩))
    · dsimp only at h1 h2 h3 ⊢
      subst h1
      have hno : ¬ mt m b := h2.no (fun h => by cases h)
      have hcl : ∀ x, mt m x → ∀ y, Succ ws x y → mt m y := fun x hx => (h2.cl x hx).resolve_left (fun h => by cases h)
      refine M.o_f rfl (M.o_pure (.inr ⟨rfl, fun e => hno (e ▸ h3), fun w => hno ?_⟩))
      have := wy_closed hcl w (by rw [Int.toNat_of_nonneg a0]; exact h3)
      rwa [Int.toNat_of_nonneg b0] at this
end Go.Proofs.Ytndobgodeicloaa
namespace Go.Proofs.Ytndobgodeicloaa
open Go Go.Nm
theorem awake_ends : m_nilometerlaw13_awake.Ends true := ⟨40, by kernel_rfl⟩
end Go.Proofs.Ytndobgodeicloaa
namespace Go.Proofs.Ytndobgodeicloaa
open Go Go.Nm
theorem copyWorks_ends {ws : List Work} (h : ws.length ≤ 1000) (ho : ∀ x ∈ ws, x.of.length ≤ 1000) : (m_nilometerlaw13_CopyWorks ws).Ends ws := by
  unfold m_nilometerlaw13_CopyWorks
  refine M.i_bind (a := ws) ?_ (M.i_bind (a := (ws, ws)) ?_ M.i_pure)
  · exact M.grdD (by simp only [List.length_nil]; omega) M.i_pure
  · refine M.i_for (fun i => (ws, i)) ws.length (fun i hi => ?_) ?_
    · have hm := ho _ (getD_memN ws (by omega : (i : Int) < ws.length) default)
      simp only [m_nilometerlaw13_CopyWorks_b0]
      refine M.i_t (by simpa using hi) (M.grdD (by omega) (M.grdD (by omega) (M.grdD (by omega) ?_)))
      rw [show ({ (ws.getD i default) with of := (ws.getD i default).of } : Work) = ws.getD i default from rfl, set_getD_self ws i hi]
      exact M.i_pure
    · simp only [m_nilometerlaw13_CopyWorks_b0]
      exact M.i_f (by simp) M.i_pure
end Go.Proofs.Ytndobgodeicloaa
namespace Go.Proofs.Ytndobgodeicloaa
open Go Go.Nm
end Go.Proofs.Ytndobgodeicloaa
namespace Go.Proofs.Ytndobgodeicloaa
open Go Go.Nm
variable {ws : List Work}
/-- The table that is done. -/
structure Done (ws : List Work) (T : List (List Bool)) : Prop where
  sq : Sq ws.length T
  sound : ∀ a b, Tb T a b = true → Wy ws a b
  cl : ∀ b k a, b < ws.length ∧ k < (ws.getD b default).of.length ∧ a < ws.length → ClAt ws T b k a
theorem Done.way {T : List (List Bool)} (h : Done ws T) (hR : rightE ws = 0) {a b : Nat} (w : Wy ws a b) : Tb T a b = true := by
  induction w with
  | @one b ha hb =>
    obtain ⟨k, hk, e⟩ := List.getElem_of_mem ha
    have e' : ((ws.getD b default).of).getD k 0 = (a : Int) := (getD_el _ hk _).trans e
    have := right_of hR hb _ ha
    exact h.cl b k a ⟨hb, hk, by omega⟩ (by rw [e']; simp)
  | @more m b w hm hb ih =>
    obtain ⟨k, hk, e⟩ := List.getElem_of_mem hm
    have e' : ((ws.getD b default).of).getD k 0 = (m : Int) := (getD_el _ hk _).trans e
    have ha : a < ws.length := by
      cases hlt : decide (a < ws.length) with
      | true => simpa using hlt
      | false =>
        exfalso
        have : Tb T a m = false := by
          unfold Tb
          rw [List.getD_eq_getElem?_getD (l := T), List.getElem?_eq_none (by rw [h.sq.len]; simpa using hlt)]
          simp
        rw [ih] at this
        cases this
    exact h.cl b k a ⟨hb, hk, ha⟩ (by rw [e', show Int.toNat (m : Int) = m from rfl, ih]; simp)
end Go.Proofs.Ytndobgodeicloaa
namespace Go.Proofs.Ytndobgodeicloaa
open Go Go.Nm
variable {ws : List Work}
end Go.Proofs.Ytndobgodeicloaa
namespace Go.Proofs.Ytndobgodeicloaa
open Go Go.Nm
variable {ws : List Work}
end Go.Proofs.Ytndobgodeicloaa
