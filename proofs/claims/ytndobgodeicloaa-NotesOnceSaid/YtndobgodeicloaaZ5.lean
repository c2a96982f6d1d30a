/- Part 5 of the texts on which the proof rests. Conditions: none. -/
import Derived.Laws.Cover3
import Derived.Test.YtndobgodeicloaaZ4
set_option linter.unusedVariables false
set_option linter.unusedSimpArgs false
set_option linter.unusedSectionVars false
section
set_option maxRecDepth 100000
set_option maxHeartbeats 16000000
namespace Go.Proofs.Ytndobgodeicloaa
open Go Go.Nm
def m_nilometerlaw13_awake : M Bool :=
  M.bind (m_nilometerlaw13_Six) fun r2 =>
  M.bind (M.pure (valuesR r2 ([(⟨(0 : Int), (2 : Int), (7 : Int)⟩ : Note), (⟨(1 : Int), (0 : Int), (9 : Int)⟩ : Note)]), valuesE r2 ([(⟨(0 : Int), (2 : Int), (7 : Int)⟩ : Note), (⟨(1 : Int), (0 : Int), (9 : Int)⟩ : Note)]))) fun (l, e) =>
  M.bind (m_nilometerlaw13_Six) fun r3 =>
  M.bind (M.pure (staleR r3 ([(0 : Int)]), askedE r3 ([(0 : Int)]))) fun (l2, e2) =>
  M.bind (m_nilometerlaw13_Six) fun r4 =>
  M.bind (M.pure (readyR r4 ([(1 : Int)]), askedE r4 ([(1 : Int)]))) fun (l3, e3) =>
  M.bind (m_nilometerlaw13_Six) fun r5 =>
  M.bind (M.pure (longestR r5 ([(0 : Int)]), longestE r5 ([(0 : Int)]))) fun (l4, e4) =>
  M.bind (M.pure (decide (l = ([(7 : Int), (9 : Int), (26 : Int), (10 : Int), (47 : Int), (48 : Int)])))) fun s =>
  M.bind (M.pure (decide (l2 = ([(0 : Int), (2 : Int), (4 : Int), (5 : Int)])))) fun s2 =>
  M.bind (M.pure (decide (l3 = ([(-1 : Int), (6 : Int), (16 : Int), (36 : Int), (56 : Int), (57 : Int)])))) fun s3 =>
  M.bind (M.pure (decide (l4 = ([(0 : Int), (2 : Int), (4 : Int), (5 : Int)])))) fun s4 =>
  bif ((((((((e != 0) || (e2 != 0)) || (e3 != 0)) || (e4 != 0)) || (!s)) || (!s2)) || (!s3)) || (!s4)) then (
  M.pure false)
  else (
  M.bind (m_nilometerlaw13_Six) fun r6 =>
  M.bind (m_notes_Fences r6 ([(0 : Int)]) ([(0 : Int), (2 : Int), (4 : Int), (5 : Int)])) fun (r0, r1) =>
  M.bind (m_nilometerlaw13_Six) fun r7 =>
  M.bind (m_notes_Fences r7 ([(0 : Int)]) ([(0 : Int), (2 : Int), (4 : Int)])) fun (r02, r12) =>
  M.bind (m_nilometerlaw13_Six) fun r8 =>
  M.bind (m_notes_Freeze r8 ([(1 : Int)]) 4) fun (r03, r13) =>
  M.bind (m_nilometerlaw13_Six) fun r9 =>
  M.bind (m_notes_Lines r9 ([(1 : Int)]) 4) fun (r04, r14) =>
  M.bind (m_nilometerlaw13_Six) fun r10 =>
  M.bind (m_notes_Freeze r10 ([(1 : Int)]) 3) fun (r05, r15) =>
  M.bind (M.pure (decide (r03 = ([(2 : Int), (3 : Int)])))) fun s5 =>
  bif (((((((((r1 != 0) || (r12 != 0)) || (r13 != 0)) || (r14 != 0)) || (r15 != 5)) || (!r0)) || r02) || (!s5)) || ((r04.length : Int) != 2)) then (
  M.pure false)
  else (
  M.bind (m_nilometerlaw13_Six) fun r11 =>
  M.bind (M.pure (withdrawnR r11 ([(⟨(0 : Int), (3 : Int), (8 : Int)⟩ : Note), (⟨(0 : Int), (2 : Int), (7 : Int)⟩ : Note), (⟨(1 : Int), (0 : Int), (9 : Int)⟩ : Note)]) ([(⟨(2 : Int), (26 : Int)⟩ : Pub), (⟨(3 : Int), (10 : Int)⟩ : Pub)]), withdrawnE r11 ([(⟨(0 : Int), (3 : Int), (8 : Int)⟩ : Note), (⟨(0 : Int), (2 : Int), (7 : Int)⟩ : Note), (⟨(1 : Int), (0 : Int), (9 : Int)⟩ : Note)]) ([(⟨(2 : Int), (26 : Int)⟩ : Pub), (⟨(3 : Int), (10 : Int)⟩ : Pub)]))) fun (l5, e5) =>
  M.bind (M.pure (decide (l5 = ([(0 : Int)])))) fun s6 =>
  M.pure ((e5 == 0) && s6)))
theorem nilometerlaw13_awake_ok {R : List Chunk}    {r : Bool} (hM : (m_nilometerlaw13_awake).Ends r) (w : World) (H : St w w [] R) : Ret Try.prog 17 #[] w fun v w' => ∃ (y0 : Bool), y0 = r ∧ v = B y0 ∧ St w w' [] R := by
 refine ret_of_W Try.func17 rfl rfl rfl ?_
 refine sQ rfl <| sA (B false) rfl <| s_nil <| sQ rfl ?_
 obtain ⟨r2z, hx1z, hM⟩ := M.e_bind hM
 refine s_call cf79 [] rfl (nilometerlaw13_Six_ok hx1z _ (St.give (T := []) H rfl)) ?_
 rintro vq w3z ⟨r2, u0_1, rr1_2, Bs2_3, hr4z, hvq, H2_, hf5z⟩
 subst hr4z
 subst vq
 try dsimp only at hM
 replace H : St w w3z [cOwn (α := Raw 2) 60 u0_1 rr1_2, cRo Bs2_3] R := H.back H2_ rfl
 clear H2_
 refine s_val (x_bld (ps := [(0, I 0), (1, I 2), (2, I 7)]) (zs := [I 0, I 0, I 0]) (L' := [I 0, I 2, I 7]) rfl Try.underlying30 Al30 rfl (Bd30 Try.underlying30) (.cons (cs := [I 0]) rfl rfl rfl rfl rfl <| .cons (cs := [I 2]) rfl rfl rfl rfl rfl <| .cons (cs := [I 7]) rfl rfl rfl rfl rfl <| .nil)) <| s_val (x_bld (ps := [(0, I 1), (2, I 9)]) (zs := [I 0, I 0, I 0]) (L' := [I 1, I 0, I 9]) rfl Try.underlying30 Al30 rfl (Bd30 Try.underlying30) (.cons (cs := [I 1]) rfl rfl rfl rfl rfl <| .cons (cs := [I 9]) rfl rfl rfl rfl rfl <| .nil)) ?_
 refine t_bs (α := Note) T23 [.agg #[I 0, I 2, I 7], .agg #[I 1, I 0, I 9]] [(⟨(0 : Int), (2 : Int), (7 : Int)⟩ : Note), (⟨(1 : Int), (0 : Int), (9 : Int)⟩ : Note)] H rfl (.cons rfl (Flat.rep_enc _ (⟨(0 : Int), (2 : Int), (7 : Int)⟩ : Note)) <| .cons rfl (Flat.rep_enc _ (⟨(1 : Int), (0 : Int), (9 : Int)⟩ : Note)) <| .nil) rfl rfl rfl ?_
 intro v6z w7z H
 obtain ⟨⟨l, e⟩, hx11z, hM⟩ := M.e_bind hM
 obtain ⟨hq12z, hq13z⟩ := Prod.mk.inj (M.e_pure hx11z)
 try dsimp only at hM
 refine s_call cf21 [u0_1, v6z] rfl (by have hc_ := (Values_any _ ((rowSl rfl (H.get (k := 1) rfl) (roLe _ (H.get (k := 2) rfl)) hf5z).mono (Cells.sup_le (ownLe _ (H.get (k := 1) rfl)) (roLe _ (H.get (k := 2) rfl)))) ((ownSl (H.get (k := 0) rfl)).mono (ownLe _ (H.get (k := 0) rfl)))); rw [hq12z, hq13z] at hc_; exact hc_) ?_
 rintro _ w8z ⟨u9z, rfl, hs10z, hx_⟩
 obtain ⟨Bs_5, H, hs10z⟩ := H.fresh hx_ hs10z
 clear hx_
 have hl_hs10z := hs10z.len_le
 refine sM (.tuple #[u9z, I e]) rfl <| sX [u9z, I e] u9z rfl rfl <| sX [u9z, I e] (I e) rfl rfl <| sA u9z rfl <| sA (I e) rfl <| s_nil <| sQ rfl ?_
 obtain ⟨r15z, hx14z, hM⟩ := M.e_bind hM
 refine s_call cf79 [] rfl (nilometerlaw13_Six_ok hx14z _ (St.give (T := [cRo Bs_5, cOwn (α := Note) 30 v6z ([(⟨(0 : Int), (2 : Int), (7 : Int)⟩ : Note), (⟨(1 : Int), (0 : Int), (9 : Int)⟩ : Note)]), cOwn (α := Raw 2) 60 u0_1 rr1_2, cRo Bs2_3]) H rfl)) ?_
 rintro vq w16z ⟨r3, u0_6, rr1_7, Bs2_8, hr17z, hvq, H2_, hf18z⟩
 subst hr17z
 subst vq
 try dsimp only at hM
 replace H : St w w16z [cOwn (α := Raw 2) 60 u0_6 rr1_7, cRo Bs2_8, cRo Bs_5, cOwn (α := Note) 30 v6z ([(⟨(0 : Int), (2 : Int), (7 : Int)⟩ : Note), (⟨(1 : Int), (0 : Int), (9 : Int)⟩ : Note)]), cOwn (α := Raw 2) 60 u0_1 rr1_2, cRo Bs2_3] R := H.back H2_ rfl
 clear H2_
 refine t_bs (α := Int) T34 [I 0] [(0 : Int)] H rfl (.cons rfl (Flat.rep_enc _ (0 : Int)) <| .nil) rfl rfl rfl ?_
 intro v19z w20z H
 obtain ⟨⟨l2, e2⟩, hx24z, hM⟩ := M.e_bind hM
 obtain ⟨hq25z, hq26z⟩ := Prod.mk.inj (M.e_pure hx24z)
 try dsimp only at hM
 refine s_call cf32 [u0_6, v19z] rfl (by have hc_ := (Stale_any _ ((rowSl rfl (H.get (k := 1) rfl) (roLe _ (H.get (k := 2) rfl)) hf18z).mono (Cells.sup_le (ownLe _ (H.get (k := 1) rfl)) (roLe _ (H.get (k := 2) rfl)))) ((ownSl (H.get (k := 0) rfl)).mono (ownLe _ (H.get (k := 0) rfl)))); rw [hq25z, hq26z] at hc_; exact hc_) ?_
 rintro _ w21z ⟨u22z, rfl, hs23z, hx_⟩
 obtain ⟨Bs_10, H, hs23z⟩ := H.fresh hx_ hs23z
 clear hx_
 have hl_hs23z := hs23z.len_le
 refine sM (.tuple #[u22z, I e2]) rfl <| sX [u22z, I e2] u22z rfl rfl <| sX [u22z, I e2] (I e2) rfl rfl <| sA u22z rfl <| sA (I e2) rfl <| s_nil <| sQ rfl ?_
 obtain ⟨r28z, hx27z, hM⟩ := M.e_bind hM
 refine s_call cf79 [] rfl (nilometerlaw13_Six_ok hx27z _ (St.give (T := [cRo Bs_10, cOwn (α := Int) 3 v19z ([(0 : Int)]), cOwn (α := Raw 2) 60 u0_6 rr1_7, cRo Bs2_8, cRo Bs_5, cOwn (α := Note) 30 v6z ([(⟨(0 : Int), (2 : Int), (7 : Int)⟩ : Note), (⟨(1 : Int), (0 : Int), (9 : Int)⟩ : Note)]), cOwn (α := Raw 2) 60 u0_1 rr1_2, cRo Bs2_3]) H rfl)) ?_
 rintro vq w29z ⟨r4, u0_11, rr1_12, Bs2_13, hr30z, hvq, H2_, hf31z⟩
 subst hr30z
 subst vq
 try dsimp only at hM
 replace H : St w w29z [cOwn (α := Raw 2) 60 u0_11 rr1_12, cRo Bs2_13, cRo Bs_10, cOwn (α := Int) 3 v19z ([(0 : Int)]), cOwn (α := Raw 2) 60 u0_6 rr1_7, cRo Bs2_8, cRo Bs_5, cOwn (α := Note) 30 v6z ([(⟨(0 : Int), (2 : Int), (7 : Int)⟩ : Note), (⟨(1 : Int), (0 : Int), (9 : Int)⟩ : Note)]), cOwn (α := Raw 2) 60 u0_1 rr1_2, cRo Bs2_3] R := H.back H2_ rfl
 clear H2_
 refine t_bs (α := Int) T34 [I 1] [(1 : Int)] H rfl (.cons rfl (Flat.rep_enc _ (1 : Int)) <| .nil) rfl rfl rfl ?_
 intro v32z w33z H
 obtain ⟨⟨l3, e3⟩, hx37z, hM⟩ := M.e_bind hM
 obtain ⟨hq38z, hq39z⟩ := Prod.mk.inj (M.e_pure hx37z)
 try dsimp only at hM
 refine s_call cf36 [u0_11, v32z] rfl (by have hc_ := (Ready_any _ ((rowSl rfl (H.get (k := 1) rfl) (roLe _ (H.get (k := 2) rfl)) hf31z).mono (Cells.sup_le (ownLe _ (H.get (k := 1) rfl)) (roLe _ (H.get (k := 2) rfl)))) ((ownSl (H.get (k := 0) rfl)).mono (ownLe _ (H.get (k := 0) rfl)))); rw [hq38z, hq39z] at hc_; exact hc_) ?_
 rintro _ w34z ⟨u35z, rfl, hs36z, hx_⟩
 obtain ⟨Bs_15, H, hs36z⟩ := H.fresh hx_ hs36z
 clear hx_
 have hl_hs36z := hs36z.len_le
 refine sM (.tuple #[u35z, I e3]) rfl <| sX [u35z, I e3] u35z rfl rfl <| sX [u35z, I e3] (I e3) rfl rfl <| sA u35z rfl <| sA (I e3) rfl <| s_nil <| sQ rfl ?_
 obtain ⟨r41z, hx40z, hM⟩ := M.e_bind hM
 refine s_call cf79 [] rfl (nilometerlaw13_Six_ok hx40z _ (St.give (T := [cRo Bs_15, cOwn (α := Int) 3 v32z ([(1 : Int)]), cOwn (α := Raw 2) 60 u0_11 rr1_12, cRo Bs2_13, cRo Bs_10, cOwn (α := Int) 3 v19z ([(0 : Int)]), cOwn (α := Raw 2) 60 u0_6 rr1_7, cRo Bs2_8, cRo Bs_5, cOwn (α := Note) 30 v6z ([(⟨(0 : Int), (2 : Int), (7 : Int)⟩ : Note), (⟨(1 : Int), (0 : Int), (9 : Int)⟩ : Note)]), cOwn (α := Raw 2) 60 u0_1 rr1_2, cRo Bs2_3]) H rfl)) ?_
 rintro vq w42z ⟨r5, u0_16, rr1_17, Bs2_18, hr43z, hvq, H2_, hf44z⟩
 subst hr43z
 subst vq
 try dsimp only at hM
 replace H : St w w42z [cOwn (α := Raw 2) 60 u0_16 rr1_17, cRo Bs2_18, cRo Bs_15, cOwn (α := Int) 3 v32z ([(1 : Int)]), cOwn (α := Raw 2) 60 u0_11 rr1_12, cRo Bs2_13, cRo Bs_10, cOwn (α := Int) 3 v19z ([(0 : Int)]), cOwn (α := Raw 2) 60 u0_6 rr1_7, cRo Bs2_8, cRo Bs_5, cOwn (α := Note) 30 v6z ([(⟨(0 : Int), (2 : Int), (7 : Int)⟩ : Note), (⟨(1 : Int), (0 : Int), (9 : Int)⟩ : Note)]), cOwn (α := Raw 2) 60 u0_1 rr1_2, cRo Bs2_3] R := H.back H2_ rfl
 clear H2_
 refine t_bs (α := Int) T34 [I 0] [(0 : Int)] H rfl (.cons rfl (Flat.rep_enc _ (0 : Int)) <| .nil) rfl rfl rfl ?_
 intro v45z w46z H
 obtain ⟨⟨l4, e4⟩, hx50z, hM⟩ := M.e_bind hM
 obtain ⟨hq51z, hq52z⟩ := Prod.mk.inj (M.e_pure hx50z)
 try dsimp only at hM
 refine s_call cf38 [u0_16, v45z] rfl (by have hc_ := (Longest_any _ ((rowSl rfl (H.get (k := 1) rfl) (roLe _ (H.get (k := 2) rfl)) hf44z).mono (Cells.sup_le (ownLe _ (H.get (k := 1) rfl)) (roLe _ (H.get (k := 2) rfl)))) ((ownSl (H.get (k := 0) rfl)).mono (ownLe _ (H.get (k := 0) rfl)))); rw [hq51z, hq52z] at hc_; exact hc_) ?_
 rintro _ w47z ⟨u48z, rfl, hs49z, hx_⟩
 obtain ⟨Bs_20, H, hs49z⟩ := H.fresh hx_ hs49z
 clear hx_
 have hl_hs49z := hs49z.len_le
 refine sM (.tuple #[u48z, I e4]) rfl <| sX [u48z, I e4] u48z rfl rfl <| sX [u48z, I e4] (I e4) rfl rfl <| sA u48z rfl <| sA (I e4) rfl <| s_nil <| W.seq <| sQ rfl <| sM (I e) rfl <| sC e 0 (e != 0) rfl rfl rfl <| sM (B (e != 0)) rfl ?_
 refine g_val (!(e != 0)) (gy_f rfl) (fun hg => x_mv (v := I e2) rfl) <| g_val (!(e != 0)) (gy_f rfl) (fun hg => x_cmp (kd := .i64) (a := e2) (b := 0) (r := e2 != 0) (gd_of (c := !(e != 0)) hg (I e2)) rfl rfl) <| s_val (x_por (b := e != 0) (r := e2 != 0) rfl rfl (fun hb => gd_of (c := !(e != 0)) (by first | exact hb | (rw [hb]; rfl) | simp_all) (B (e2 != 0)))) <| sM (B ((e != 0) || (e2 != 0))) rfl <| g_val (!((e != 0) || (e2 != 0))) (gy_f rfl) (fun hg => x_mv (v := I e3) rfl) <| g_val (!((e != 0) || (e2 != 0))) (gy_f rfl) (fun hg => x_cmp (kd := .i64) (a := e3) (b := 0) (r := e3 != 0) (gd_of (c := !((e != 0) || (e2 != 0))) hg (I e3)) rfl rfl) <| s_val (x_por (b := ((e != 0) || (e2 != 0))) (r := e3 != 0) rfl rfl (fun hb => gd_of (c := !((e != 0) || (e2 != 0))) (by first | exact hb | (rw [hb]; rfl) | simp_all) (B (e3 != 0)))) <| sM (B (((e != 0) || (e2 != 0)) || (e3 != 0))) rfl <| g_val (!(((e != 0) || (e2 != 0)) || (e3 != 0))) (gy_f rfl) (fun hg => x_mv (v := I e4) rfl) <| g_val (!(((e != 0) || (e2 != 0)) || (e3 != 0))) (gy_f rfl) (fun hg => x_cmp (kd := .i64) (a := e4) (b := 0) (r := e4 != 0) (gd_of (c := !(((e != 0) || (e2 != 0)) || (e3 != 0))) hg (I e4)) rfl rfl) <| s_val (x_por (b := (((e != 0) || (e2 != 0)) || (e3 != 0))) (r := e4 != 0) rfl rfl (fun hb => gd_of (c := !(((e != 0) || (e2 != 0)) || (e3 != 0))) (by first | exact hb | (rw [hb]; rfl) | simp_all) (B (e4 != 0)))) <| sM (B ((((e != 0) || (e2 != 0)) || (e3 != 0)) || (e4 != 0))) rfl ?_
 refine g_val (!((((e != 0) || (e2 != 0)) || (e3 != 0)) || (e4 != 0))) (gy_f rfl) (fun hg => x_mv (v := u9z) rfl) ?_
 refine t_gbs (α := Int) T34 (!((((e != 0) || (e2 != 0)) || (e3 != 0)) || (e4 != 0))) (gy_f rfl) [I 7, I 9, I 26, I 10, I 47, I 48] [(7 : Int), (9 : Int), (26 : Int), (10 : Int), (47 : Int), (48 : Int)] H (fun _ => rfl) (.cons rfl (Flat.rep_enc _ _) <| .cons rfl (Flat.rep_enc _ _) <| .cons rfl (Flat.rep_enc _ _) <| .cons rfl (Flat.rep_enc _ _) <| .cons rfl (Flat.rep_enc _ _) <| .cons rfl (Flat.rep_enc _ _) <| .nil) rfl rfl rfl ?_
 intro v53z Bs_21 w54z H hf55z
 obtain ⟨s, hx56z, hM⟩ := M.e_bind hM
 replace hx56z := M.e_pure hx56z
 refine t_gcall (!((((e != 0) || (e2 != 0)) || (e3 != 0)) || (e4 != 0))) (gy_f rfl) cf25 (B s) (fun _ => [u9z, v53z]) (fun hg => lst2 (gd_of (c := !((((e != 0) || (e2 != 0)) || (e3 != 0)) || (e4 != 0))) hg (u9z)) (gd_of (c := !((((e != 0) || (e2 != 0)) || (e3 != 0)) || (e4 != 0))) hg (v53z))) H (fun hg => Ret.mono (same_int _ (hs10z.mono (roLe _ (H.get (k := 13) rfl))) ((hf55z hg).mono (roLe _ (H.get (k := 0) rfl)))) fun v_ w_ ⟨hv_, hx_⟩ => ⟨hv_.trans (congrArg B hx56z), H.ext hx_⟩) ?_
 intro w57z H
 refine g_val (!((((e != 0) || (e2 != 0)) || (e3 != 0)) || (e4 != 0))) (gy_f rfl) (fun hg => x_not (b := s) (gd_of (c := !((((e != 0) || (e2 != 0)) || (e3 != 0)) || (e4 != 0))) hg (B s))) <| s_val (x_por (b := ((((e != 0) || (e2 != 0)) || (e3 != 0)) || (e4 != 0))) (r := !s) rfl rfl (fun hb => gd_of (c := !((((e != 0) || (e2 != 0)) || (e3 != 0)) || (e4 != 0))) (by first | exact hb | (rw [hb]; rfl) | simp_all) (B (!s)))) <| sM (B (((((e != 0) || (e2 != 0)) || (e3 != 0)) || (e4 != 0)) || (!s))) rfl <| g_val (!(((((e != 0) || (e2 != 0)) || (e3 != 0)) || (e4 != 0)) || (!s))) (gy_f rfl) (fun hg => x_mv (v := u22z) rfl) ?_
 refine t_gbs (α := Int) T34 (!(((((e != 0) || (e2 != 0)) || (e3 != 0)) || (e4 != 0)) || (!s))) (gy_f rfl) [I 0, I 2, I 4, I 5] [(0 : Int), (2 : Int), (4 : Int), (5 : Int)] H (fun _ => rfl) (.cons rfl (Flat.rep_enc _ _) <| .cons rfl (Flat.rep_enc _ _) <| .cons rfl (Flat.rep_enc _ _) <| .cons rfl (Flat.rep_enc _ _) <| .nil) rfl rfl rfl ?_
 intro v58z Bs_22 w59z H hf60z
 obtain ⟨s2, hx61z, hM⟩ := M.e_bind hM
 replace hx61z := M.e_pure hx61z
 refine t_gcall (!(((((e != 0) || (e2 != 0)) || (e3 != 0)) || (e4 != 0)) || (!s))) (gy_f rfl) cf25 (B s2) (fun _ => [u22z, v58z]) (fun hg => lst2 (gd_of (c := !(((((e != 0) || (e2 != 0)) || (e3 != 0)) || (e4 != 0)) || (!s))) hg (u22z)) (gd_of (c := !(((((e != 0) || (e2 != 0)) || (e3 != 0)) || (e4 != 0)) || (!s))) hg (v58z))) H (fun hg => Ret.mono (same_int _ (hs23z.mono (roLe _ (H.get (k := 10) rfl))) ((hf60z hg).mono (roLe _ (H.get (k := 0) rfl)))) fun v_ w_ ⟨hv_, hx_⟩ => ⟨hv_.trans (congrArg B hx61z), H.ext hx_⟩) ?_
 intro w62z H
 refine g_val (!(((((e != 0) || (e2 != 0)) || (e3 != 0)) || (e4 != 0)) || (!s))) (gy_f rfl) (fun hg => x_not (b := s2) (gd_of (c := !(((((e != 0) || (e2 != 0)) || (e3 != 0)) || (e4 != 0)) || (!s))) hg (B s2))) <| s_val (x_por (b := (((((e != 0) || (e2 != 0)) || (e3 != 0)) || (e4 != 0)) || (!s))) (r := !s2) rfl rfl (fun hb => gd_of (c := !(((((e != 0) || (e2 != 0)) || (e3 != 0)) || (e4 != 0)) || (!s))) (by first | exact hb | (rw [hb]; rfl) | simp_all) (B (!s2)))) <| sM (B ((((((e != 0) || (e2 != 0)) || (e3 != 0)) || (e4 != 0)) || (!s)) || (!s2))) rfl <| g_val (!((((((e != 0) || (e2 != 0)) || (e3 != 0)) || (e4 != 0)) || (!s)) || (!s2))) (gy_f rfl) (fun hg => x_mv (v := u35z) rfl) ?_
 refine t_gbs (α := Int) T34 (!((((((e != 0) || (e2 != 0)) || (e3 != 0)) || (e4 != 0)) || (!s)) || (!s2))) (gy_f rfl) [I (-1), I 6, I 16, I 36, I 56, I 57] [(-1 : Int), (6 : Int), (16 : Int), (36 : Int), (56 : Int), (57 : Int)] H (fun _ => rfl) (.cons rfl (Flat.rep_enc _ _) <| .cons rfl (Flat.rep_enc _ _) <| .cons rfl (Flat.rep_enc _ _) <| .cons rfl (Flat.rep_enc _ _) <| .cons rfl (Flat.rep_enc _ _) <| .cons rfl (Flat.rep_enc _ _) <| .nil) rfl rfl rfl ?_
 intro v63z Bs_23 w64z H hf65z
 obtain ⟨s3, hx66z, hM⟩ := M.e_bind hM
 replace hx66z := M.e_pure hx66z
 refine t_gcall (!((((((e != 0) || (e2 != 0)) || (e3 != 0)) || (e4 != 0)) || (!s)) || (!s2))) (gy_f rfl) cf25 (B s3) (fun _ => [u35z, v63z]) (fun hg => lst2 (gd_of (c := !((((((e != 0) || (e2 != 0)) || (e3 != 0)) || (e4 != 0)) || (!s)) || (!s2))) hg (u35z)) (gd_of (c := !((((((e != 0) || (e2 != 0)) || (e3 != 0)) || (e4 != 0)) || (!s)) || (!s2))) hg (v63z))) H (fun hg => Ret.mono (same_int _ (hs36z.mono (roLe _ (H.get (k := 7) rfl))) ((hf65z hg).mono (roLe _ (H.get (k := 0) rfl)))) fun v_ w_ ⟨hv_, hx_⟩ => ⟨hv_.trans (congrArg B hx66z), H.ext hx_⟩) ?_
 intro w67z H
 refine g_val (!((((((e != 0) || (e2 != 0)) || (e3 != 0)) || (e4 != 0)) || (!s)) || (!s2))) (gy_f rfl) (fun hg => x_not (b := s3) (gd_of (c := !((((((e != 0) || (e2 != 0)) || (e3 != 0)) || (e4 != 0)) || (!s)) || (!s2))) hg (B s3))) <| s_val (x_por (b := ((((((e != 0) || (e2 != 0)) || (e3 != 0)) || (e4 != 0)) || (!s)) || (!s2))) (r := !s3) rfl rfl (fun hb => gd_of (c := !((((((e != 0) || (e2 != 0)) || (e3 != 0)) || (e4 != 0)) || (!s)) || (!s2))) (by first | exact hb | (rw [hb]; rfl) | simp_all) (B (!s3)))) <| sM (B (((((((e != 0) || (e2 != 0)) || (e3 != 0)) || (e4 != 0)) || (!s)) || (!s2)) || (!s3))) rfl <| g_val (!(((((((e != 0) || (e2 != 0)) || (e3 != 0)) || (e4 != 0)) || (!s)) || (!s2)) || (!s3))) (gy_f rfl) (fun hg => x_mv (v := u48z) rfl) ?_
 refine t_gbs (α := Int) T34 (!(((((((e != 0) || (e2 != 0)) || (e3 != 0)) || (e4 != 0)) || (!s)) || (!s2)) || (!s3))) (gy_f rfl) [I 0, I 2, I 4, I 5] [(0 : Int), (2 : Int), (4 : Int), (5 : Int)] H (fun _ => rfl) (.cons rfl (Flat.rep_enc _ _) <| .cons rfl (Flat.rep_enc _ _) <| .cons rfl (Flat.rep_enc _ _) <| .cons rfl (Flat.rep_enc _ _) <| .nil) rfl rfl rfl ?_
 intro v68z Bs_24 w69z H hf70z
 obtain ⟨s4, hx71z, hM⟩ := M.e_bind hM
 replace hx71z := M.e_pure hx71z
 refine t_gcall (!(((((((e != 0) || (e2 != 0)) || (e3 != 0)) || (e4 != 0)) || (!s)) || (!s2)) || (!s3))) (gy_f rfl) cf25 (B s4) (fun _ => [u48z, v68z]) (fun hg => lst2 (gd_of (c := !(((((((e != 0) || (e2 != 0)) || (e3 != 0)) || (e4 != 0)) || (!s)) || (!s2)) || (!s3))) hg (u48z)) (gd_of (c := !(((((((e != 0) || (e2 != 0)) || (e3 != 0)) || (e4 != 0)) || (!s)) || (!s2)) || (!s3))) hg (v68z))) H (fun hg => Ret.mono (same_int _ (hs49z.mono (roLe _ (H.get (k := 4) rfl))) ((hf70z hg).mono (roLe _ (H.get (k := 0) rfl)))) fun v_ w_ ⟨hv_, hx_⟩ => ⟨hv_.trans (congrArg B hx71z), H.ext hx_⟩) ?_
 intro w72z H
 refine g_val (!(((((((e != 0) || (e2 != 0)) || (e3 != 0)) || (e4 != 0)) || (!s)) || (!s2)) || (!s3))) (gy_f rfl) (fun hg => x_not (b := s4) (gd_of (c := !(((((((e != 0) || (e2 != 0)) || (e3 != 0)) || (e4 != 0)) || (!s)) || (!s2)) || (!s3))) hg (B s4))) <| s_val (x_por (b := (((((((e != 0) || (e2 != 0)) || (e3 != 0)) || (e4 != 0)) || (!s)) || (!s2)) || (!s3))) (r := !s4) rfl rfl (fun hb => gd_of (c := !(((((((e != 0) || (e2 != 0)) || (e3 != 0)) || (e4 != 0)) || (!s)) || (!s2)) || (!s3))) (by first | exact hb | (rw [hb]; rfl) | simp_all) (B (!s4)))) <| s_nil ?_
 refine W.cond ((((((((e != 0) || (e2 != 0)) || (e3 != 0)) || (e4 != 0)) || (!s)) || (!s2)) || (!s3)) || (!s4)) rfl (fun c73z => ?_) (fun c73z => ?_)
 ·replace hM := M.e_t hM c73z
  refine sQ rfl <| sA (B false) rfl <| s_nil ?_
  refine W.ret ?_
  have hr_ := M.e_pure hM
  exact ⟨_, resE_tmp rfl, ⟨false, hr_, rfl, (H.pick [] (by decide) rfl)⟩⟩
 replace hM := M.e_f hM c73z
 refine W.skip <| sQ rfl ?_
 obtain ⟨r75z, hx74z, hM⟩ := M.e_bind hM
 refine s_call cf79 [] rfl (nilometerlaw13_Six_ok hx74z _ (St.give (T := [cRo Bs_24, cRo Bs_23, cRo Bs_22, cRo Bs_21, cRo Bs_20, cOwn (α := Int) 3 v45z ([(0 : Int)]), cOwn (α := Raw 2) 60 u0_16 rr1_17, cRo Bs2_18, cRo Bs_15, cOwn (α := Int) 3 v32z ([(1 : Int)]), cOwn (α := Raw 2) 60 u0_11 rr1_12, cRo Bs2_13, cRo Bs_10, cOwn (α := Int) 3 v19z ([(0 : Int)]), cOwn (α := Raw 2) 60 u0_6 rr1_7, cRo Bs2_8, cRo Bs_5, cOwn (α := Note) 30 v6z ([(⟨(0 : Int), (2 : Int), (7 : Int)⟩ : Note), (⟨(1 : Int), (0 : Int), (9 : Int)⟩ : Note)]), cOwn (α := Raw 2) 60 u0_1 rr1_2, cRo Bs2_3]) H rfl)) ?_
 rintro vq w76z ⟨r6, u0_25, rr1_26, Bs2_27, hr77z, hvq, H2_, hf78z⟩
 subst hr77z
 subst vq
 try dsimp only at hM
 replace H : St w w76z [cOwn (α := Raw 2) 60 u0_25 rr1_26, cRo Bs2_27, cRo Bs_24, cRo Bs_23, cRo Bs_22, cRo Bs_21, cRo Bs_20, cOwn (α := Int) 3 v45z ([(0 : Int)]), cOwn (α := Raw 2) 60 u0_16 rr1_17, cRo Bs2_18, cRo Bs_15, cOwn (α := Int) 3 v32z ([(1 : Int)]), cOwn (α := Raw 2) 60 u0_11 rr1_12, cRo Bs2_13, cRo Bs_10, cOwn (α := Int) 3 v19z ([(0 : Int)]), cOwn (α := Raw 2) 60 u0_6 rr1_7, cRo Bs2_8, cRo Bs_5, cOwn (α := Note) 30 v6z ([(⟨(0 : Int), (2 : Int), (7 : Int)⟩ : Note), (⟨(1 : Int), (0 : Int), (9 : Int)⟩ : Note)]), cOwn (α := Raw 2) 60 u0_1 rr1_2, cRo Bs2_3] R := H.back H2_ rfl
 clear H2_
 refine t_bs (α := Int) T34 [I 0] [(0 : Int)] H rfl (.cons rfl (Flat.rep_enc _ (0 : Int)) <| .nil) rfl rfl rfl ?_
 intro v79z w80z H
 refine t_bs (α := Int) T34 [I 0, I 2, I 4, I 5] [(0 : Int), (2 : Int), (4 : Int), (5 : Int)] H rfl (.cons rfl (Flat.rep_enc _ (0 : Int)) <| .cons rfl (Flat.rep_enc _ (2 : Int)) <| .cons rfl (Flat.rep_enc _ (4 : Int)) <| .cons rfl (Flat.rep_enc _ (5 : Int)) <| .nil) rfl rfl rfl ?_
 intro v81z w82z H
 obtain ⟨r84z, hx83z, hM⟩ := M.e_bind hM
 refine s_call cf34 [u0_25, v79z, v81z] rfl (notes_Fences_ok r6 ([(0 : Int)]) ([(0 : Int), (2 : Int), (4 : Int), (5 : Int)]) (Reads.sup (Reads.of (k := 2) rfl ownLe) (Reads.of (k := 3) rfl roLe)) (rowSl rfl (H.get (k := 2) rfl) (roLe _ (H.get (k := 3) rfl)) hf78z) (Reads.of (k := 1) rfl ownLe) (ownSl (H.get (k := 1) rfl)) (Reads.of (k := 0) rfl ownLe) (ownSl (H.get (k := 0) rfl)) hx83z _ (St.give (T := [cOwn (α := Int) 3 v81z ([(0 : Int), (2 : Int), (4 : Int), (5 : Int)]), cOwn (α := Int) 3 v79z ([(0 : Int)]), cOwn (α := Raw 2) 60 u0_25 rr1_26, cRo Bs2_27, cRo Bs_24, cRo Bs_23, cRo Bs_22, cRo Bs_21, cRo Bs_20, cOwn (α := Int) 3 v45z ([(0 : Int)]), cOwn (α := Raw 2) 60 u0_16 rr1_17, cRo Bs2_18, cRo Bs_15, cOwn (α := Int) 3 v32z ([(1 : Int)]), cOwn (α := Raw 2) 60 u0_11 rr1_12, cRo Bs2_13, cRo Bs_10, cOwn (α := Int) 3 v19z ([(0 : Int)]), cOwn (α := Raw 2) 60 u0_6 rr1_7, cRo Bs2_8, cRo Bs_5, cOwn (α := Note) 30 v6z ([(⟨(0 : Int), (2 : Int), (7 : Int)⟩ : Note), (⟨(1 : Int), (0 : Int), (9 : Int)⟩ : Note)]), cOwn (α := Raw 2) 60 u0_1 rr1_2, cRo Bs2_3]) H rfl)) ?_
 rintro vq w85z ⟨r0, r1, hr86z, hvq, H2_⟩
 subst hr86z
 subst vq
 try dsimp only at hM
 replace H : St w w85z [cOwn (α := Int) 3 v81z ([(0 : Int), (2 : Int), (4 : Int), (5 : Int)]), cOwn (α := Int) 3 v79z ([(0 : Int)]), cOwn (α := Raw 2) 60 u0_25 rr1_26, cRo Bs2_27, cRo Bs_24, cRo Bs_23, cRo Bs_22, cRo Bs_21, cRo Bs_20, cOwn (α := Int) 3 v45z ([(0 : Int)]), cOwn (α := Raw 2) 60 u0_16 rr1_17, cRo Bs2_18, cRo Bs_15, cOwn (α := Int) 3 v32z ([(1 : Int)]), cOwn (α := Raw 2) 60 u0_11 rr1_12, cRo Bs2_13, cRo Bs_10, cOwn (α := Int) 3 v19z ([(0 : Int)]), cOwn (α := Raw 2) 60 u0_6 rr1_7, cRo Bs2_8, cRo Bs_5, cOwn (α := Note) 30 v6z ([(⟨(0 : Int), (2 : Int), (7 : Int)⟩ : Note), (⟨(1 : Int), (0 : Int), (9 : Int)⟩ : Note)]), cOwn (α := Raw 2) 60 u0_1 rr1_2, cRo Bs2_3] R := H.back H2_ rfl
 clear H2_
 refine sM (.tuple #[B r0, I r1]) rfl <| sX [B r0, I r1] (B r0) rfl rfl <| sX [B r0, I r1] (I r1) rfl rfl <| sA (B r0) rfl <| sA (I r1) rfl <| s_nil <| sQ rfl ?_
 obtain ⟨r88z, hx87z, hM⟩ := M.e_bind hM
 refine s_call cf79 [] rfl (nilometerlaw13_Six_ok hx87z _ (St.give (T := [cOwn (α := Int) 3 v81z ([(0 : Int), (2 : Int), (4 : Int), (5 : Int)]), cOwn (α := Int) 3 v79z ([(0 : Int)]), cOwn (α := Raw 2) 60 u0_25 rr1_26, cRo Bs2_27, cRo Bs_24, cRo Bs_23, cRo Bs_22, cRo Bs_21, cRo Bs_20, cOwn (α := Int) 3 v45z ([(0 : Int)]), cOwn (α := Raw 2) 60 u0_16 rr1_17, cRo Bs2_18, cRo Bs_15, cOwn (α := Int) 3 v32z ([(1 : Int)]), cOwn (α := Raw 2) 60 u0_11 rr1_12, cRo Bs2_13, cRo Bs_10, cOwn (α := Int) 3 v19z ([(0 : Int)]), cOwn (α := Raw 2) 60 u0_6 rr1_7, cRo Bs2_8, cRo Bs_5, cOwn (α := Note) 30 v6z ([(⟨(0 : Int), (2 : Int), (7 : Int)⟩ : Note), (⟨(1 : Int), (0 : Int), (9 : Int)⟩ : Note)]), cOwn (α := Raw 2) 60 u0_1 rr1_2, cRo Bs2_3]) H rfl)) ?_
 rintro vq w89z ⟨r7, u0_30, rr1_31, Bs2_32, hr90z, hvq, H2_, hf91z⟩
 subst hr90z
 subst vq
 try dsimp only at hM
 replace H : St w w89z [cOwn (α := Raw 2) 60 u0_30 rr1_31, cRo Bs2_32, cOwn (α := Int) 3 v81z ([(0 : Int), (2 : Int), (4 : Int), (5 : Int)]), cOwn (α := Int) 3 v79z ([(0 : Int)]), cOwn (α := Raw 2) 60 u0_25 rr1_26, cRo Bs2_27, cRo Bs_24, cRo Bs_23, cRo Bs_22, cRo Bs_21, cRo Bs_20, cOwn (α := Int) 3 v45z ([(0 : Int)]), cOwn (α := Raw 2) 60 u0_16 rr1_17, cRo Bs2_18, cRo Bs_15, cOwn (α := Int) 3 v32z ([(1 : Int)]), cOwn (α := Raw 2) 60 u0_11 rr1_12, cRo Bs2_13, cRo Bs_10, cOwn (α := Int) 3 v19z ([(0 : Int)]), cOwn (α := Raw 2) 60 u0_6 rr1_7, cRo Bs2_8, cRo Bs_5, cOwn (α := Note) 30 v6z ([(⟨(0 : Int), (2 : Int), (7 : Int)⟩ : Note), (⟨(1 : Int), (0 : Int), (9 : Int)⟩ : Note)]), cOwn (α := Raw 2) 60 u0_1 rr1_2, cRo Bs2_3] R := H.back H2_ rfl
 clear H2_
 refine t_bs (α := Int) T34 [I 0] [(0 : Int)] H rfl (.cons rfl (Flat.rep_enc _ (0 : Int)) <| .nil) rfl rfl rfl ?_
 intro v92z w93z H
 refine t_bs (α := Int) T34 [I 0, I 2, I 4] [(0 : Int), (2 : Int), (4 : Int)] H rfl (.cons rfl (Flat.rep_enc _ (0 : Int)) <| .cons rfl (Flat.rep_enc _ (2 : Int)) <| .cons rfl (Flat.rep_enc _ (4 : Int)) <| .nil) rfl rfl rfl ?_
 intro v94z w95z H
 obtain ⟨r97z, hx96z, hM⟩ := M.e_bind hM
 refine s_call cf34 [u0_30, v92z, v94z] rfl (notes_Fences_ok r7 ([(0 : Int)]) ([(0 : Int), (2 : Int), (4 : Int)]) (Reads.sup (Reads.of (k := 2) rfl ownLe) (Reads.of (k := 3) rfl roLe)) (rowSl rfl (H.get (k := 2) rfl) (roLe _ (H.get (k := 3) rfl)) hf91z) (Reads.of (k := 1) rfl ownLe) (ownSl (H.get (k := 1) rfl)) (Reads.of (k := 0) rfl ownLe) (ownSl (H.get (k := 0) rfl)) hx96z _ (St.give (T := [cOwn (α := Int) 3 v94z ([(0 : Int), (2 : Int), (4 : Int)]), cOwn (α := Int) 3 v92z ([(0 : Int)]), cOwn (α := Raw 2) 60 u0_30 rr1_31, cRo Bs2_32, cOwn (α := Int) 3 v81z ([(0 : Int), (2 : Int), (4 : Int), (5 : Int)]), cOwn (α := Int) 3 v79z ([(0 : Int)]), cOwn (α := Raw 2) 60 u0_25 rr1_26, cRo Bs2_27, cRo Bs_24, cRo Bs_23, cRo Bs_22, cRo Bs_21, cRo Bs_20, cOwn (α := Int) 3 v45z ([(0 : Int)]), cOwn (α := Raw 2) 60 u0_16 rr1_17, cRo Bs2_18, cRo Bs_15, cOwn (α := Int) 3 v32z ([(1 : Int)]), cOwn (α := Raw 2) 60 u0_11 rr1_12, cRo Bs2_13, cRo Bs_10, cOwn (α := Int) 3 v19z ([(0 : Int)]), cOwn (α := Raw 2) 60 u0_6 rr1_7, cRo Bs2_8, cRo Bs_5, cOwn (α := Note) 30 v6z ([(⟨(0 : Int), (2 : Int), (7 : Int)⟩ : Note), (⟨(1 : Int), (0 : Int), (9 : Int)⟩ : Note)]), cOwn (α := Raw 2) 60 u0_1 rr1_2, cRo Bs2_3]) H rfl)) ?_
 rintro vq w98z ⟨r02, r12, hr99z, hvq, H2_⟩
 subst hr99z
 subst vq
 try dsimp only at hM
 replace H : St w w98z [cOwn (α := Int) 3 v94z ([(0 : Int), (2 : Int), (4 : Int)]), cOwn (α := Int) 3 v92z ([(0 : Int)]), cOwn (α := Raw 2) 60 u0_30 rr1_31, cRo Bs2_32, cOwn (α := Int) 3 v81z ([(0 : Int), (2 : Int), (4 : Int), (5 : Int)]), cOwn (α := Int) 3 v79z ([(0 : Int)]), cOwn (α := Raw 2) 60 u0_25 rr1_26, cRo Bs2_27, cRo Bs_24, cRo Bs_23, cRo Bs_22, cRo Bs_21, cRo Bs_20, cOwn (α := Int) 3 v45z ([(0 : Int)]), cOwn (α := Raw 2) 60 u0_16 rr1_17, cRo Bs2_18, cRo Bs_15, cOwn (α := Int) 3 v32z ([(1 : Int)]), cOwn (α := Raw 2) 60 u0_11 rr1_12, cRo Bs2_13, cRo Bs_10, cOwn (α := Int) 3 v19z ([(0 : Int)]), cOwn (α := Raw 2) 60 u0_6 rr1_7, cRo Bs2_8, cRo Bs_5, cOwn (α := Note) 30 v6z ([(⟨(0 : Int), (2 : Int), (7 : Int)⟩ : Note), (⟨(1 : Int), (0 : Int), (9 : Int)⟩ : Note)]), cOwn (α := Raw 2) 60 u0_1 rr1_2, cRo Bs2_3] R := H.back H2_ rfl
 clear H2_
 refine sM (.tuple #[B r02, I r12]) rfl <| sX [B r02, I r12] (B r02) rfl rfl <| sX [B r02, I r12] (I r12) rfl rfl <| sA (B r02) rfl <| sA (I r12) rfl <| s_nil <| sQ rfl ?_
 obtain ⟨r101z, hx100z, hM⟩ := M.e_bind hM
 refine s_call cf79 [] rfl (nilometerlaw13_Six_ok hx100z _ (St.give (T := [cOwn (α := Int) 3 v94z ([(0 : Int), (2 : Int), (4 : Int)]), cOwn (α := Int) 3 v92z ([(0 : Int)]), cOwn (α := Raw 2) 60 u0_30 rr1_31, cRo Bs2_32, cOwn (α := Int) 3 v81z ([(0 : Int), (2 : Int), (4 : Int), (5 : Int)]), cOwn (α := Int) 3 v79z ([(0 : Int)]), cOwn (α := Raw 2) 60 u0_25 rr1_26, cRo Bs2_27, cRo Bs_24, cRo Bs_23, cRo Bs_22, cRo Bs_21, cRo Bs_20, cOwn (α := Int) 3 v45z ([(0 : Int)]), cOwn (α := Raw 2) 60 u0_16 rr1_17, cRo Bs2_18, cRo Bs_15, cOwn (α := Int) 3 v32z ([(1 : Int)]), cOwn (α := Raw 2) 60 u0_11 rr1_12, cRo Bs2_13, cRo Bs_10, cOwn (α := Int) 3 v19z ([(0 : Int)]), cOwn (α := Raw 2) 60 u0_6 rr1_7, cRo Bs2_8, cRo Bs_5, cOwn (α := Note) 30 v6z ([(⟨(0 : Int), (2 : Int), (7 : Int)⟩ : Note), (⟨(1 : Int), (0 : Int), (9 : Int)⟩ : Note)]), cOwn (α := Raw 2) 60 u0_1 rr1_2, cRo Bs2_3]) H rfl)) ?_
 rintro vq w102z ⟨r8, u0_35, rr1_36, Bs2_37, hr103z, hvq, H2_, hf104z⟩
 subst hr103z
 subst vq
 try dsimp only at hM
 replace H : St w w102z [cOwn (α := Raw 2) 60 u0_35 rr1_36, cRo Bs2_37, cOwn (α := Int) 3 v94z ([(0 : Int), (2 : Int), (4 : Int)]), cOwn (α := Int) 3 v92z ([(0 : Int)]), cOwn (α := Raw 2) 60 u0_30 rr1_31, cRo Bs2_32, cOwn (α := Int) 3 v81z ([(0 : Int), (2 : Int), (4 : Int), (5 : Int)]), cOwn (α := Int) 3 v79z ([(0 : Int)]), cOwn (α := Raw 2) 60 u0_25 rr1_26, cRo Bs2_27, cRo Bs_24, cRo Bs_23, cRo Bs_22, cRo Bs_21, cRo Bs_20, cOwn (α := Int) 3 v45z ([(0 : Int)]), cOwn (α := Raw 2) 60 u0_16 rr1_17, cRo Bs2_18, cRo Bs_15, cOwn (α := Int) 3 v32z ([(1 : Int)]), cOwn (α := Raw 2) 60 u0_11 rr1_12, cRo Bs2_13, cRo Bs_10, cOwn (α := Int) 3 v19z ([(0 : Int)]), cOwn (α := Raw 2) 60 u0_6 rr1_7, cRo Bs2_8, cRo Bs_5, cOwn (α := Note) 30 v6z ([(⟨(0 : Int), (2 : Int), (7 : Int)⟩ : Note), (⟨(1 : Int), (0 : Int), (9 : Int)⟩ : Note)]), cOwn (α := Raw 2) 60 u0_1 rr1_2, cRo Bs2_3] R := H.back H2_ rfl
 clear H2_
 refine t_bs (α := Int) T34 [I 1] [(1 : Int)] H rfl (.cons rfl (Flat.rep_enc _ (1 : Int)) <| .nil) rfl rfl rfl ?_
 intro v105z w106z H
 obtain ⟨r108z, hx107z, hM⟩ := M.e_bind hM
 refine s_call cf64 [u0_35, v105z, I 4] rfl (notes_Freeze_ok r8 ([(1 : Int)]) 4 (Reads.sup (Reads.of (k := 1) rfl ownLe) (Reads.of (k := 2) rfl roLe)) (rowSl rfl (H.get (k := 1) rfl) (roLe _ (H.get (k := 2) rfl)) hf104z) (Reads.of (k := 0) rfl ownLe) (ownSl (H.get (k := 0) rfl)) hx107z _ (St.give (T := [cOwn (α := Int) 3 v105z ([(1 : Int)]), cOwn (α := Raw 2) 60 u0_35 rr1_36, cRo Bs2_37, cOwn (α := Int) 3 v94z ([(0 : Int), (2 : Int), (4 : Int)]), cOwn (α := Int) 3 v92z ([(0 : Int)]), cOwn (α := Raw 2) 60 u0_30 rr1_31, cRo Bs2_32, cOwn (α := Int) 3 v81z ([(0 : Int), (2 : Int), (4 : Int), (5 : Int)]), cOwn (α := Int) 3 v79z ([(0 : Int)]), cOwn (α := Raw 2) 60 u0_25 rr1_26, cRo Bs2_27, cRo Bs_24, cRo Bs_23, cRo Bs_22, cRo Bs_21, cRo Bs_20, cOwn (α := Int) 3 v45z ([(0 : Int)]), cOwn (α := Raw 2) 60 u0_16 rr1_17, cRo Bs2_18, cRo Bs_15, cOwn (α := Int) 3 v32z ([(1 : Int)]), cOwn (α := Raw 2) 60 u0_11 rr1_12, cRo Bs2_13, cRo Bs_10, cOwn (α := Int) 3 v19z ([(0 : Int)]), cOwn (α := Raw 2) 60 u0_6 rr1_7, cRo Bs2_8, cRo Bs_5, cOwn (α := Note) 30 v6z ([(⟨(0 : Int), (2 : Int), (7 : Int)⟩ : Note), (⟨(1 : Int), (0 : Int), (9 : Int)⟩ : Note)]), cOwn (α := Raw 2) 60 u0_1 rr1_2, cRo Bs2_3]) H rfl)) ?_
 rintro vq w109z ⟨r03, r13, u0_39, hr110z, hvq, H2_⟩
 subst hr110z
 subst vq
 try dsimp only at hM
 replace H : St w w109z [cOwn (α := Int) 3 u0_39 r03, cOwn (α := Int) 3 v105z ([(1 : Int)]), cOwn (α := Raw 2) 60 u0_35 rr1_36, cRo Bs2_37, cOwn (α := Int) 3 v94z ([(0 : Int), (2 : Int), (4 : Int)]), cOwn (α := Int) 3 v92z ([(0 : Int)]), cOwn (α := Raw 2) 60 u0_30 rr1_31, cRo Bs2_32, cOwn (α := Int) 3 v81z ([(0 : Int), (2 : Int), (4 : Int), (5 : Int)]), cOwn (α := Int) 3 v79z ([(0 : Int)]), cOwn (α := Raw 2) 60 u0_25 rr1_26, cRo Bs2_27, cRo Bs_24, cRo Bs_23, cRo Bs_22, cRo Bs_21, cRo Bs_20, cOwn (α := Int) 3 v45z ([(0 : Int)]), cOwn (α := Raw 2) 60 u0_16 rr1_17, cRo Bs2_18, cRo Bs_15, cOwn (α := Int) 3 v32z ([(1 : Int)]), cOwn (α := Raw 2) 60 u0_11 rr1_12, cRo Bs2_13, cRo Bs_10, cOwn (α := Int) 3 v19z ([(0 : Int)]), cOwn (α := Raw 2) 60 u0_6 rr1_7, cRo Bs2_8, cRo Bs_5, cOwn (α := Note) 30 v6z ([(⟨(0 : Int), (2 : Int), (7 : Int)⟩ : Note), (⟨(1 : Int), (0 : Int), (9 : Int)⟩ : Note)]), cOwn (α := Raw 2) 60 u0_1 rr1_2, cRo Bs2_3] R := H.back H2_ rfl
 clear H2_
 refine sM (.tuple #[u0_39, I r13]) rfl <| sX [u0_39, I r13] u0_39 rfl rfl <| sX [u0_39, I r13] (I r13) rfl rfl <| sA u0_39 rfl <| sA (I r13) rfl <| s_nil <| sQ rfl ?_
 obtain ⟨r112z, hx111z, hM⟩ := M.e_bind hM
 refine s_call cf79 [] rfl (nilometerlaw13_Six_ok hx111z _ (St.give (T := [cOwn (α := Int) 3 u0_39 r03, cOwn (α := Int) 3 v105z ([(1 : Int)]), cOwn (α := Raw 2) 60 u0_35 rr1_36, cRo Bs2_37, cOwn (α := Int) 3 v94z ([(0 : Int), (2 : Int), (4 : Int)]), cOwn (α := Int) 3 v92z ([(0 : Int)]), cOwn (α := Raw 2) 60 u0_30 rr1_31, cRo Bs2_32, cOwn (α := Int) 3 v81z ([(0 : Int), (2 : Int), (4 : Int), (5 : Int)]), cOwn (α := Int) 3 v79z ([(0 : Int)]), cOwn (α := Raw 2) 60 u0_25 rr1_26, cRo Bs2_27, cRo Bs_24, cRo Bs_23, cRo Bs_22, cRo Bs_21, cRo Bs_20, cOwn (α := Int) 3 v45z ([(0 : Int)]), cOwn (α := Raw 2) 60 u0_16 rr1_17, cRo Bs2_18, cRo Bs_15, cOwn (α := Int) 3 v32z ([(1 : Int)]), cOwn (α := Raw 2) 60 u0_11 rr1_12, cRo Bs2_13, cRo Bs_10, cOwn (α := Int) 3 v19z ([(0 : Int)]), cOwn (α := Raw 2) 60 u0_6 rr1_7, cRo Bs2_8, cRo Bs_5, cOwn (α := Note) 30 v6z ([(⟨(0 : Int), (2 : Int), (7 : Int)⟩ : Note), (⟨(1 : Int), (0 : Int), (9 : Int)⟩ : Note)]), cOwn (α := Raw 2) 60 u0_1 rr1_2, cRo Bs2_3]) H rfl)) ?_
 rintro vq w113z ⟨r9, u0_40, rr1_41, Bs2_42, hr114z, hvq, H2_, hf115z⟩
 subst hr114z
 subst vq
 try dsimp only at hM
 replace H : St w w113z [cOwn (α := Raw 2) 60 u0_40 rr1_41, cRo Bs2_42, cOwn (α := Int) 3 u0_39 r03, cOwn (α := Int) 3 v105z ([(1 : Int)]), cOwn (α := Raw 2) 60 u0_35 rr1_36, cRo Bs2_37, cOwn (α := Int) 3 v94z ([(0 : Int), (2 : Int), (4 : Int)]), cOwn (α := Int) 3 v92z ([(0 : Int)]), cOwn (α := Raw 2) 60 u0_30 rr1_31, cRo Bs2_32, cOwn (α := Int) 3 v81z ([(0 : Int), (2 : Int), (4 : Int), (5 : Int)]), cOwn (α := Int) 3 v79z ([(0 : Int)]), cOwn (α := Raw 2) 60 u0_25 rr1_26, cRo Bs2_27, cRo Bs_24, cRo Bs_23, cRo Bs_22, cRo Bs_21, cRo Bs_20, cOwn (α := Int) 3 v45z ([(0 : Int)]), cOwn (α := Raw 2) 60 u0_16 rr1_17, cRo Bs2_18, cRo Bs_15, cOwn (α := Int) 3 v32z ([(1 : Int)]), cOwn (α := Raw 2) 60 u0_11 rr1_12, cRo Bs2_13, cRo Bs_10, cOwn (α := Int) 3 v19z ([(0 : Int)]), cOwn (α := Raw 2) 60 u0_6 rr1_7, cRo Bs2_8, cRo Bs_5, cOwn (α := Note) 30 v6z ([(⟨(0 : Int), (2 : Int), (7 : Int)⟩ : Note), (⟨(1 : Int), (0 : Int), (9 : Int)⟩ : Note)]), cOwn (α := Raw 2) 60 u0_1 rr1_2, cRo Bs2_3] R := H.back H2_ rfl
 clear H2_
 refine t_bs (α := Int) T34 [I 1] [(1 : Int)] H rfl (.cons rfl (Flat.rep_enc _ (1 : Int)) <| .nil) rfl rfl rfl ?_
 intro v116z w117z H
 obtain ⟨r119z, hx118z, hM⟩ := M.e_bind hM
 refine s_call cf65 [u0_40, v116z, I 4] rfl (notes_Lines_ok r9 ([(1 : Int)]) 4 (Reads.sup (Reads.of (k := 1) rfl ownLe) (Reads.of (k := 2) rfl roLe)) (rowSl rfl (H.get (k := 1) rfl) (roLe _ (H.get (k := 2) rfl)) hf115z) (Reads.of (k := 0) rfl ownLe) (ownSl (H.get (k := 0) rfl)) hx118z _ (St.give (T := [cOwn (α := Int) 3 v116z ([(1 : Int)]), cOwn (α := Raw 2) 60 u0_40 rr1_41, cRo Bs2_42, cOwn (α := Int) 3 u0_39 r03, cOwn (α := Int) 3 v105z ([(1 : Int)]), cOwn (α := Raw 2) 60 u0_35 rr1_36, cRo Bs2_37, cOwn (α := Int) 3 v94z ([(0 : Int), (2 : Int), (4 : Int)]), cOwn (α := Int) 3 v92z ([(0 : Int)]), cOwn (α := Raw 2) 60 u0_30 rr1_31, cRo Bs2_32, cOwn (α := Int) 3 v81z ([(0 : Int), (2 : Int), (4 : Int), (5 : Int)]), cOwn (α := Int) 3 v79z ([(0 : Int)]), cOwn (α := Raw 2) 60 u0_25 rr1_26, cRo Bs2_27, cRo Bs_24, cRo Bs_23, cRo Bs_22, cRo Bs_21, cRo Bs_20, cOwn (α := Int) 3 v45z ([(0 : Int)]), cOwn (α := Raw 2) 60 u0_16 rr1_17, cRo Bs2_18, cRo Bs_15, cOwn (α := Int) 3 v32z ([(1 : Int)]), cOwn (α := Raw 2) 60 u0_11 rr1_12, cRo Bs2_13, cRo Bs_10, cOwn (α := Int) 3 v19z ([(0 : Int)]), cOwn (α := Raw 2) 60 u0_6 rr1_7, cRo Bs2_8, cRo Bs_5, cOwn (α := Note) 30 v6z ([(⟨(0 : Int), (2 : Int), (7 : Int)⟩ : Note), (⟨(1 : Int), (0 : Int), (9 : Int)⟩ : Note)]), cOwn (α := Raw 2) 60 u0_1 rr1_2, cRo Bs2_3]) H rfl)) ?_
 rintro vq w120z ⟨r04, r14, u0_44, rr1_45, Bs2_46, hr121z, hvq, H2_, hf122z⟩
 subst hr121z
 subst vq
 try dsimp only at hM
 replace H : St w w120z [cOwn (α := Raw 0) 34 u0_44 rr1_45, cRo Bs2_46, cOwn (α := Int) 3 v116z ([(1 : Int)]), cOwn (α := Raw 2) 60 u0_40 rr1_41, cRo Bs2_42, cOwn (α := Int) 3 u0_39 r03, cOwn (α := Int) 3 v105z ([(1 : Int)]), cOwn (α := Raw 2) 60 u0_35 rr1_36, cRo Bs2_37, cOwn (α := Int) 3 v94z ([(0 : Int), (2 : Int), (4 : Int)]), cOwn (α := Int) 3 v92z ([(0 : Int)]), cOwn (α := Raw 2) 60 u0_30 rr1_31, cRo Bs2_32, cOwn (α := Int) 3 v81z ([(0 : Int), (2 : Int), (4 : Int), (5 : Int)]), cOwn (α := Int) 3 v79z ([(0 : Int)]), cOwn (α := Raw 2) 60 u0_25 rr1_26, cRo Bs2_27, cRo Bs_24, cRo Bs_23, cRo Bs_22, cRo Bs_21, cRo Bs_20, cOwn (α := Int) 3 v45z ([(0 : Int)]), cOwn (α := Raw 2) 60 u0_16 rr1_17, cRo Bs2_18, cRo Bs_15, cOwn (α := Int) 3 v32z ([(1 : Int)]), cOwn (α := Raw 2) 60 u0_11 rr1_12, cRo Bs2_13, cRo Bs_10, cOwn (α := Int) 3 v19z ([(0 : Int)]), cOwn (α := Raw 2) 60 u0_6 rr1_7, cRo Bs2_8, cRo Bs_5, cOwn (α := Note) 30 v6z ([(⟨(0 : Int), (2 : Int), (7 : Int)⟩ : Note), (⟨(1 : Int), (0 : Int), (9 : Int)⟩ : Note)]), cOwn (α := Raw 2) 60 u0_1 rr1_2, cRo Bs2_3] R := H.back H2_ rfl
 clear H2_
 refine sM (.tuple #[u0_44, I r14]) rfl <| sX [u0_44, I r14] u0_44 rfl rfl <| sX [u0_44, I r14] (I r14) rfl rfl <| sA u0_44 rfl <| sA (I r14) rfl <| s_nil <| sQ rfl ?_
 obtain ⟨r124z, hx123z, hM⟩ := M.e_bind hM
 refine s_call cf79 [] rfl (nilometerlaw13_Six_ok hx123z _ (St.give (T := [cOwn (α := Raw 0) 34 u0_44 rr1_45, cRo Bs2_46, cOwn (α := Int) 3 v116z ([(1 : Int)]), cOwn (α := Raw 2) 60 u0_40 rr1_41, cRo Bs2_42, cOwn (α := Int) 3 u0_39 r03, cOwn (α := Int) 3 v105z ([(1 : Int)]), cOwn (α := Raw 2) 60 u0_35 rr1_36, cRo Bs2_37, cOwn (α := Int) 3 v94z ([(0 : Int), (2 : Int), (4 : Int)]), cOwn (α := Int) 3 v92z ([(0 : Int)]), cOwn (α := Raw 2) 60 u0_30 rr1_31, cRo Bs2_32, cOwn (α := Int) 3 v81z ([(0 : Int), (2 : Int), (4 : Int), (5 : Int)]), cOwn (α := Int) 3 v79z ([(0 : Int)]), cOwn (α := Raw 2) 60 u0_25 rr1_26, cRo Bs2_27, cRo Bs_24, cRo Bs_23, cRo Bs_22, cRo Bs_21, cRo Bs_20, cOwn (α := Int) 3 v45z ([(0 : Int)]), cOwn (α := Raw 2) 60 u0_16 rr1_17, cRo Bs2_18, cRo Bs_15, cOwn (α := Int) 3 v32z ([(1 : Int)]), cOwn (α := Raw 2) 60 u0_11 rr1_12, cRo Bs2_13, cRo Bs_10, cOwn (α := Int) 3 v19z ([(0 : Int)]), cOwn (α := Raw 2) 60 u0_6 rr1_7, cRo Bs2_8, cRo Bs_5, cOwn (α := Note) 30 v6z ([(⟨(0 : Int), (2 : Int), (7 : Int)⟩ : Note), (⟨(1 : Int), (0 : Int), (9 : Int)⟩ : Note)]), cOwn (α := Raw 2) 60 u0_1 rr1_2, cRo Bs2_3]) H rfl)) ?_
 rintro vq w125z ⟨r10, u0_47, rr1_48, Bs2_49, hr126z, hvq, H2_, hf127z⟩
 subst hr126z
 subst vq
 try dsimp only at hM
 replace H : St w w125z [cOwn (α := Raw 2) 60 u0_47 rr1_48, cRo Bs2_49, cOwn (α := Raw 0) 34 u0_44 rr1_45, cRo Bs2_46, cOwn (α := Int) 3 v116z ([(1 : Int)]), cOwn (α := Raw 2) 60 u0_40 rr1_41, cRo Bs2_42, cOwn (α := Int) 3 u0_39 r03, cOwn (α := Int) 3 v105z ([(1 : Int)]), cOwn (α := Raw 2) 60 u0_35 rr1_36, cRo Bs2_37, cOwn (α := Int) 3 v94z ([(0 : Int), (2 : Int), (4 : Int)]), cOwn (α := Int) 3 v92z ([(0 : Int)]), cOwn (α := Raw 2) 60 u0_30 rr1_31, cRo Bs2_32, cOwn (α := Int) 3 v81z ([(0 : Int), (2 : Int), (4 : Int), (5 : Int)]), cOwn (α := Int) 3 v79z ([(0 : Int)]), cOwn (α := Raw 2) 60 u0_25 rr1_26, cRo Bs2_27, cRo Bs_24, cRo Bs_23, cRo Bs_22, cRo Bs_21, cRo Bs_20, cOwn (α := Int) 3 v45z ([(0 : Int)]), cOwn (α := Raw 2) 60 u0_16 rr1_17, cRo Bs2_18, cRo Bs_15, cOwn (α := Int) 3 v32z ([(1 : Int)]), cOwn (α := Raw 2) 60 u0_11 rr1_12, cRo Bs2_13, cRo Bs_10, cOwn (α := Int) 3 v19z ([(0 : Int)]), cOwn (α := Raw 2) 60 u0_6 rr1_7, cRo Bs2_8, cRo Bs_5, cOwn (α := Note) 30 v6z ([(⟨(0 : Int), (2 : Int), (7 : Int)⟩ : Note), (⟨(1 : Int), (0 : Int), (9 : Int)⟩ : Note)]), cOwn (α := Raw 2) 60 u0_1 rr1_2, cRo Bs2_3] R := H.back H2_ rfl
 clear H2_
 refine t_bs (α := Int) T34 [I 1] [(1 : Int)] H rfl (.cons rfl (Flat.rep_enc _ (1 : Int)) <| .nil) rfl rfl rfl ?_
 intro v128z w129z H
 obtain ⟨r131z, hx130z, hM⟩ := M.e_bind hM
 refine s_call cf64 [u0_47, v128z, I 3] rfl (notes_Freeze_ok r10 ([(1 : Int)]) 3 (Reads.sup (Reads.of (k := 1) rfl ownLe) (Reads.of (k := 2) rfl roLe)) (rowSl rfl (H.get (k := 1) rfl) (roLe _ (H.get (k := 2) rfl)) hf127z) (Reads.of (k := 0) rfl ownLe) (ownSl (H.get (k := 0) rfl)) hx130z _ (St.give (T := [cOwn (α := Int) 3 v128z ([(1 : Int)]), cOwn (α := Raw 2) 60 u0_47 rr1_48, cRo Bs2_49, cOwn (α := Raw 0) 34 u0_44 rr1_45, cRo Bs2_46, cOwn (α := Int) 3 v116z ([(1 : Int)]), cOwn (α := Raw 2) 60 u0_40 rr1_41, cRo Bs2_42, cOwn (α := Int) 3 u0_39 r03, cOwn (α := Int) 3 v105z ([(1 : Int)]), cOwn (α := Raw 2) 60 u0_35 rr1_36, cRo Bs2_37, cOwn (α := Int) 3 v94z ([(0 : Int), (2 : Int), (4 : Int)]), cOwn (α := Int) 3 v92z ([(0 : Int)]), cOwn (α := Raw 2) 60 u0_30 rr1_31, cRo Bs2_32, cOwn (α := Int) 3 v81z ([(0 : Int), (2 : Int), (4 : Int), (5 : Int)]), cOwn (α := Int) 3 v79z ([(0 : Int)]), cOwn (α := Raw 2) 60 u0_25 rr1_26, cRo Bs2_27, cRo Bs_24, cRo Bs_23, cRo Bs_22, cRo Bs_21, cRo Bs_20, cOwn (α := Int) 3 v45z ([(0 : Int)]), cOwn (α := Raw 2) 60 u0_16 rr1_17, cRo Bs2_18, cRo Bs_15, cOwn (α := Int) 3 v32z ([(1 : Int)]), cOwn (α := Raw 2) 60 u0_11 rr1_12, cRo Bs2_13, cRo Bs_10, cOwn (α := Int) 3 v19z ([(0 : Int)]), cOwn (α := Raw 2) 60 u0_6 rr1_7, cRo Bs2_8, cRo Bs_5, cOwn (α := Note) 30 v6z ([(⟨(0 : Int), (2 : Int), (7 : Int)⟩ : Note), (⟨(1 : Int), (0 : Int), (9 : Int)⟩ : Note)]), cOwn (α := Raw 2) 60 u0_1 rr1_2, cRo Bs2_3]) H rfl)) ?_
 rintro vq w132z ⟨r05, r15, u0_51, hr133z, hvq, H2_⟩
 subst hr133z
 subst vq
 try dsimp only at hM
 replace H : St w w132z [cOwn (α := Int) 3 u0_51 r05, cOwn (α := Int) 3 v128z ([(1 : Int)]), cOwn (α := Raw 2) 60 u0_47 rr1_48, cRo Bs2_49, cOwn (α := Raw 0) 34 u0_44 rr1_45, cRo Bs2_46, cOwn (α := Int) 3 v116z ([(1 : Int)]), cOwn (α := Raw 2) 60 u0_40 rr1_41, cRo Bs2_42, cOwn (α := Int) 3 u0_39 r03, cOwn (α := Int) 3 v105z ([(1 : Int)]), cOwn (α := Raw 2) 60 u0_35 rr1_36, cRo Bs2_37, cOwn (α := Int) 3 v94z ([(0 : Int), (2 : Int), (4 : Int)]), cOwn (α := Int) 3 v92z ([(0 : Int)]), cOwn (α := Raw 2) 60 u0_30 rr1_31, cRo Bs2_32, cOwn (α := Int) 3 v81z ([(0 : Int), (2 : Int), (4 : Int), (5 : Int)]), cOwn (α := Int) 3 v79z ([(0 : Int)]), cOwn (α := Raw 2) 60 u0_25 rr1_26, cRo Bs2_27, cRo Bs_24, cRo Bs_23, cRo Bs_22, cRo Bs_21, cRo Bs_20, cOwn (α := Int) 3 v45z ([(0 : Int)]), cOwn (α := Raw 2) 60 u0_16 rr1_17, cRo Bs2_18, cRo Bs_15, cOwn (α := Int) 3 v32z ([(1 : Int)]), cOwn (α := Raw 2) 60 u0_11 rr1_12, cRo Bs2_13, cRo Bs_10, cOwn (α := Int) 3 v19z ([(0 : Int)]), cOwn (α := Raw 2) 60 u0_6 rr1_7, cRo Bs2_8, cRo Bs_5, cOwn (α := Note) 30 v6z ([(⟨(0 : Int), (2 : Int), (7 : Int)⟩ : Note), (⟨(1 : Int), (0 : Int), (9 : Int)⟩ : Note)]), cOwn (α := Raw 2) 60 u0_1 rr1_2, cRo Bs2_3] R := H.back H2_ rfl
 clear H2_
 refine sM (.tuple #[u0_51, I r15]) rfl <| sX [u0_51, I r15] u0_51 rfl rfl <| sX [u0_51, I r15] (I r15) rfl rfl <| sA u0_51 rfl <| sA (I r15) rfl <| s_nil <| W.seq <| sQ rfl <| sM (I r1) rfl <| sC r1 0 (r1 != 0) rfl rfl rfl <| sM (B (r1 != 0)) rfl ?_
 refine g_val (!(r1 != 0)) (gy_f rfl) (fun hg => x_mv (v := I r12) rfl) <| g_val (!(r1 != 0)) (gy_f rfl) (fun hg => x_cmp (kd := .i64) (a := r12) (b := 0) (r := r12 != 0) (gd_of (c := !(r1 != 0)) hg (I r12)) rfl rfl) <| s_val (x_por (b := r1 != 0) (r := r12 != 0) rfl rfl (fun hb => gd_of (c := !(r1 != 0)) (by first | exact hb | (rw [hb]; rfl) | simp_all) (B (r12 != 0)))) <| sM (B ((r1 != 0) || (r12 != 0))) rfl <| g_val (!((r1 != 0) || (r12 != 0))) (gy_f rfl) (fun hg => x_mv (v := I r13) rfl) <| g_val (!((r1 != 0) || (r12 != 0))) (gy_f rfl) (fun hg => x_cmp (kd := .i64) (a := r13) (b := 0) (r := r13 != 0) (gd_of (c := !((r1 != 0) || (r12 != 0))) hg (I r13)) rfl rfl) <| s_val (x_por (b := ((r1 != 0) || (r12 != 0))) (r := r13 != 0) rfl rfl (fun hb => gd_of (c := !((r1 != 0) || (r12 != 0))) (by first | exact hb | (rw [hb]; rfl) | simp_all) (B (r13 != 0)))) <| sM (B (((r1 != 0) || (r12 != 0)) || (r13 != 0))) rfl <| g_val (!(((r1 != 0) || (r12 != 0)) || (r13 != 0))) (gy_f rfl) (fun hg => x_mv (v := I r14) rfl) <| g_val (!(((r1 != 0) || (r12 != 0)) || (r13 != 0))) (gy_f rfl) (fun hg => x_cmp (kd := .i64) (a := r14) (b := 0) (r := r14 != 0) (gd_of (c := !(((r1 != 0) || (r12 != 0)) || (r13 != 0))) hg (I r14)) rfl rfl) <| s_val (x_por (b := (((r1 != 0) || (r12 != 0)) || (r13 != 0))) (r := r14 != 0) rfl rfl (fun hb => gd_of (c := !(((r1 != 0) || (r12 != 0)) || (r13 != 0))) (by first | exact hb | (rw [hb]; rfl) | simp_all) (B (r14 != 0)))) <| sM (B ((((r1 != 0) || (r12 != 0)) || (r13 != 0)) || (r14 != 0))) rfl ?_
 refine g_val (!((((r1 != 0) || (r12 != 0)) || (r13 != 0)) || (r14 != 0))) (gy_f rfl) (fun hg => x_mv (v := I r15) rfl) <| g_val (!((((r1 != 0) || (r12 != 0)) || (r13 != 0)) || (r14 != 0))) (gy_f rfl) (fun hg => x_cmp (kd := .i64) (a := r15) (b := 5) (r := r15 != 5) (gd_of (c := !((((r1 != 0) || (r12 != 0)) || (r13 != 0)) || (r14 != 0))) hg (I r15)) rfl rfl) <| s_val (x_por (b := ((((r1 != 0) || (r12 != 0)) || (r13 != 0)) || (r14 != 0))) (r := r15 != 5) rfl rfl (fun hb => gd_of (c := !((((r1 != 0) || (r12 != 0)) || (r13 != 0)) || (r14 != 0))) (by first | exact hb | (rw [hb]; rfl) | simp_all) (B (r15 != 5)))) <| sM (B (((((r1 != 0) || (r12 != 0)) || (r13 != 0)) || (r14 != 0)) || (r15 != 5))) rfl <| g_val (!(((((r1 != 0) || (r12 != 0)) || (r13 != 0)) || (r14 != 0)) || (r15 != 5))) (gy_f rfl) (fun hg => x_mv (v := B r0) rfl) <| g_val (!(((((r1 != 0) || (r12 != 0)) || (r13 != 0)) || (r14 != 0)) || (r15 != 5))) (gy_f rfl) (fun hg => x_not (b := r0) (gd_of (c := !(((((r1 != 0) || (r12 != 0)) || (r13 != 0)) || (r14 != 0)) || (r15 != 5))) hg (B r0))) <| s_val (x_por (b := (((((r1 != 0) || (r12 != 0)) || (r13 != 0)) || (r14 != 0)) || (r15 != 5))) (r := !r0) rfl rfl (fun hb => gd_of (c := !(((((r1 != 0) || (r12 != 0)) || (r13 != 0)) || (r14 != 0)) || (r15 != 5))) (by first | exact hb | (rw [hb]; rfl) | simp_all) (B (!r0)))) <| sM (B ((((((r1 != 0) || (r12 != 0)) || (r13 != 0)) || (r14 != 0)) || (r15 != 5)) || (!r0))) rfl <| g_val (!((((((r1 != 0) || (r12 != 0)) || (r13 != 0)) || (r14 != 0)) || (r15 != 5)) || (!r0))) (gy_f rfl) (fun hg => x_mv (v := B r02) rfl) <| s_val (x_por (b := ((((((r1 != 0) || (r12 != 0)) || (r13 != 0)) || (r14 != 0)) || (r15 != 5)) || (!r0))) (r := r02) rfl rfl (fun hb => gd_of (c := !((((((r1 != 0) || (r12 != 0)) || (r13 != 0)) || (r14 != 0)) || (r15 != 5)) || (!r0))) (by first | exact hb | (rw [hb]; rfl) | simp_all) (B r02))) <| sM (B (((((((r1 != 0) || (r12 != 0)) || (r13 != 0)) || (r14 != 0)) || (r15 != 5)) || (!r0)) || r02)) rfl <| g_val (!(((((((r1 != 0) || (r12 != 0)) || (r13 != 0)) || (r14 != 0)) || (r15 != 5)) || (!r0)) || r02)) (gy_f rfl) (fun hg => x_mv (v := u0_39) rfl) ?_
 refine t_gbs (α := Int) T34 (!(((((((r1 != 0) || (r12 != 0)) || (r13 != 0)) || (r14 != 0)) || (r15 != 5)) || (!r0)) || r02)) (gy_f rfl) [I 2, I 3] [(2 : Int), (3 : Int)] H (fun _ => rfl) (.cons rfl (Flat.rep_enc _ _) <| .cons rfl (Flat.rep_enc _ _) <| .nil) rfl rfl rfl ?_
 intro v134z Bs_52 w135z H hf136z
 obtain ⟨s5, hx137z, hM⟩ := M.e_bind hM
 replace hx137z := M.e_pure hx137z
 refine t_gcall (!(((((((r1 != 0) || (r12 != 0)) || (r13 != 0)) || (r14 != 0)) || (r15 != 5)) || (!r0)) || r02)) (gy_f rfl) cf25 (B s5) (fun _ => [u0_39, v134z]) (fun hg => lst2 (gd_of (c := !(((((((r1 != 0) || (r12 != 0)) || (r13 != 0)) || (r14 != 0)) || (r15 != 5)) || (!r0)) || r02)) hg (u0_39)) (gd_of (c := !(((((((r1 != 0) || (r12 != 0)) || (r13 != 0)) || (r14 != 0)) || (r15 != 5)) || (!r0)) || r02)) hg (v134z))) H (fun hg => Ret.mono (same_int _ ((ownSl (H.get (k := 10) rfl)).mono (ownLe _ (H.get (k := 10) rfl))) ((hf136z hg).mono (roLe _ (H.get (k := 0) rfl)))) fun v_ w_ ⟨hv_, hx_⟩ => ⟨hv_.trans (congrArg B hx137z), H.ext hx_⟩) ?_
 intro w138z H
 refine g_val (!(((((((r1 != 0) || (r12 != 0)) || (r13 != 0)) || (r14 != 0)) || (r15 != 5)) || (!r0)) || r02)) (gy_f rfl) (fun hg => x_not (b := s5) (gd_of (c := !(((((((r1 != 0) || (r12 != 0)) || (r13 != 0)) || (r14 != 0)) || (r15 != 5)) || (!r0)) || r02)) hg (B s5))) <| s_val (x_por (b := (((((((r1 != 0) || (r12 != 0)) || (r13 != 0)) || (r14 != 0)) || (r15 != 5)) || (!r0)) || r02)) (r := !s5) rfl rfl (fun hb => gd_of (c := !(((((((r1 != 0) || (r12 != 0)) || (r13 != 0)) || (r14 != 0)) || (r15 != 5)) || (!r0)) || r02)) (by first | exact hb | (rw [hb]; rfl) | simp_all) (B (!s5)))) <| sM (B ((((((((r1 != 0) || (r12 != 0)) || (r13 != 0)) || (r14 != 0)) || (r15 != 5)) || (!r0)) || r02) || (!s5))) rfl <| g_val (!((((((((r1 != 0) || (r12 != 0)) || (r13 != 0)) || (r14 != 0)) || (r15 != 5)) || (!r0)) || r02) || (!s5))) (gy_f rfl) (fun hg => x_mv (v := u0_44) rfl) <| g_val (!((((((((r1 != 0) || (r12 != 0)) || (r13 != 0)) || (r14 != 0)) || (r15 != 5)) || (!r0)) || r02) || (!s5))) (gy_f rfl) (fun hg => x_lenS T73.und (gd_of (c := !((((((((r1 != 0) || (r12 != 0)) || (r13 != 0)) || (r14 != 0)) || (r15 != 5)) || (!r0)) || r02) || (!s5))) hg (u0_44)) (rowSl rfl (H.get (k := 5) rfl) (roLe _ (H.get (k := 6) rfl)) hf122z)) <| g_val (!((((((((r1 != 0) || (r12 != 0)) || (r13 != 0)) || (r14 != 0)) || (r15 != 5)) || (!r0)) || r02) || (!s5))) (gy_f rfl) (fun hg => x_cmp (kd := .i64) (a := (r04.length : Int)) (b := 2) (r := (r04.length : Int) != 2) (gd_of (c := !((((((((r1 != 0) || (r12 != 0)) || (r13 != 0)) || (r14 != 0)) || (r15 != 5)) || (!r0)) || r02) || (!s5))) hg (I (r04.length : Int))) rfl rfl) <| s_val (x_por (b := ((((((((r1 != 0) || (r12 != 0)) || (r13 != 0)) || (r14 != 0)) || (r15 != 5)) || (!r0)) || r02) || (!s5))) (r := (r04.length : Int) != 2) rfl rfl (fun hb => gd_of (c := !((((((((r1 != 0) || (r12 != 0)) || (r13 != 0)) || (r14 != 0)) || (r15 != 5)) || (!r0)) || r02) || (!s5))) (by first | exact hb | (rw [hb]; rfl) | simp_all) (B ((r04.length : Int) != 2)))) <| s_nil ?_
 refine W.cond (((((((((r1 != 0) || (r12 != 0)) || (r13 != 0)) || (r14 != 0)) || (r15 != 5)) || (!r0)) || r02) || (!s5)) || ((r04.length : Int) != 2)) rfl (fun c140z => ?_) (fun c140z => ?_)
 ·replace hM := M.e_t hM c140z
  refine sQ rfl <| sA (B false) rfl <| s_nil ?_
  refine W.ret ?_
  have hr_ := M.e_pure hM
  exact ⟨_, resE_tmp rfl, ⟨false, hr_, rfl, (H.pick [] (by decide) rfl)⟩⟩
 replace hM := M.e_f hM c140z
 refine W.skip <| sQ rfl ?_
 obtain ⟨r142z, hx141z, hM⟩ := M.e_bind hM
 refine s_call cf79 [] rfl (nilometerlaw13_Six_ok hx141z _ (St.give (T := [cRo Bs_52, cOwn (α := Int) 3 u0_51 r05, cOwn (α := Int) 3 v128z ([(1 : Int)]), cOwn (α := Raw 2) 60 u0_47 rr1_48, cRo Bs2_49, cOwn (α := Raw 0) 34 u0_44 rr1_45, cRo Bs2_46, cOwn (α := Int) 3 v116z ([(1 : Int)]), cOwn (α := Raw 2) 60 u0_40 rr1_41, cRo Bs2_42, cOwn (α := Int) 3 u0_39 r03, cOwn (α := Int) 3 v105z ([(1 : Int)]), cOwn (α := Raw 2) 60 u0_35 rr1_36, cRo Bs2_37, cOwn (α := Int) 3 v94z ([(0 : Int), (2 : Int), (4 : Int)]), cOwn (α := Int) 3 v92z ([(0 : Int)]), cOwn (α := Raw 2) 60 u0_30 rr1_31, cRo Bs2_32, cOwn (α := Int) 3 v81z ([(0 : Int), (2 : Int), (4 : Int), (5 : Int)]), cOwn (α := Int) 3 v79z ([(0 : Int)]), cOwn (α := Raw 2) 60 u0_25 rr1_26, cRo Bs2_27, cRo Bs_24, cRo Bs_23, cRo Bs_22, cRo Bs_21, cRo Bs_20, cOwn (α := Int) 3 v45z ([(0 : Int)]), cOwn (α := Raw 2) 60 u0_16 rr1_17, cRo Bs2_18, cRo Bs_15, cOwn (α := Int) 3 v32z ([(1 : Int)]), cOwn (α := Raw 2) 60 u0_11 rr1_12, cRo Bs2_13, cRo Bs_10, cOwn (α := Int) 3 v19z ([(0 : Int)]), cOwn (α := Raw 2) 60 u0_6 rr1_7, cRo Bs2_8, cRo Bs_5, cOwn (α := Note) 30 v6z ([(⟨(0 : Int), (2 : Int), (7 : Int)⟩ : Note), (⟨(1 : Int), (0 : Int), (9 : Int)⟩ : Note)]), cOwn (α := Raw 2) 60 u0_1 rr1_2, cRo Bs2_3]) H rfl)) ?_
 rintro vq w143z ⟨r11, u0_53, rr1_54, Bs2_55, hr144z, hvq, H2_, hf145z⟩
 subst hr144z
 subst vq
 try dsimp only at hM
 replace H : St w w143z [cOwn (α := Raw 2) 60 u0_53 rr1_54, cRo Bs2_55, cRo Bs_52, cOwn (α := Int) 3 u0_51 r05, cOwn (α := Int) 3 v128z ([(1 : Int)]), cOwn (α := Raw 2) 60 u0_47 rr1_48, cRo Bs2_49, cOwn (α := Raw 0) 34 u0_44 rr1_45, cRo Bs2_46, cOwn (α := Int) 3 v116z ([(1 : Int)]), cOwn (α := Raw 2) 60 u0_40 rr1_41, cRo Bs2_42, cOwn (α := Int) 3 u0_39 r03, cOwn (α := Int) 3 v105z ([(1 : Int)]), cOwn (α := Raw 2) 60 u0_35 rr1_36, cRo Bs2_37, cOwn (α := Int) 3 v94z ([(0 : Int), (2 : Int), (4 : Int)]), cOwn (α := Int) 3 v92z ([(0 : Int)]), cOwn (α := Raw 2) 60 u0_30 rr1_31, cRo Bs2_32, cOwn (α := Int) 3 v81z ([(0 : Int), (2 : Int), (4 : Int), (5 : Int)]), cOwn (α := Int) 3 v79z ([(0 : Int)]), cOwn (α := Raw 2) 60 u0_25 rr1_26, cRo Bs2_27, cRo Bs_24, cRo Bs_23, cRo Bs_22, cRo Bs_21, cRo Bs_20, cOwn (α := Int) 3 v45z ([(0 : Int)]), cOwn (α := Raw 2) 60 u0_16 rr1_17, cRo Bs2_18, cRo Bs_15, cOwn (α := Int) 3 v32z ([(1 : Int)]), cOwn (α := Raw 2) 60 u0_11 rr1_12, cRo Bs2_13, cRo Bs_10, cOwn (α := Int) 3 v19z ([(0 : Int)]), cOwn (α := Raw 2) 60 u0_6 rr1_7, cRo Bs2_8, cRo Bs_5, cOwn (α := Note) 30 v6z ([(⟨(0 : Int), (2 : Int), (7 : Int)⟩ : Note), (⟨(1 : Int), (0 : Int), (9 : Int)⟩ : Note)]), cOwn (α := Raw 2) 60 u0_1 rr1_2, cRo Bs2_3] R := H.back H2_ rfl
 clear H2_
 refine s_val (x_bld (ps := [(0, I 0), (1, I 3), (2, I 8)]) (zs := [I 0, I 0, I 0]) (L' := [I 0, I 3, I 8]) rfl Try.underlying30 Al30 rfl (Bd30 Try.underlying30) (.cons (cs := [I 0]) rfl rfl rfl rfl rfl <| .cons (cs := [I 3]) rfl rfl rfl rfl rfl <| .cons (cs := [I 8]) rfl rfl rfl rfl rfl <| .nil)) <| s_val (x_bld (ps := [(0, I 0), (1, I 2), (2, I 7)]) (zs := [I 0, I 0, I 0]) (L' := [I 0, I 2, I 7]) rfl Try.underlying30 Al30 rfl (Bd30 Try.underlying30) (.cons (cs := [I 0]) rfl rfl rfl rfl rfl <| .cons (cs := [I 2]) rfl rfl rfl rfl rfl <| .cons (cs := [I 7]) rfl rfl rfl rfl rfl <| .nil)) <| s_val (x_bld (ps := [(0, I 1), (2, I 9)]) (zs := [I 0, I 0, I 0]) (L' := [I 1, I 0, I 9]) rfl Try.underlying30 Al30 rfl (Bd30 Try.underlying30) (.cons (cs := [I 1]) rfl rfl rfl rfl rfl <| .cons (cs := [I 9]) rfl rfl rfl rfl rfl <| .nil)) ?_
 refine t_bs (α := Note) T23 [.agg #[I 0, I 3, I 8], .agg #[I 0, I 2, I 7], .agg #[I 1, I 0, I 9]] [(⟨(0 : Int), (3 : Int), (8 : Int)⟩ : Note), (⟨(0 : Int), (2 : Int), (7 : Int)⟩ : Note), (⟨(1 : Int), (0 : Int), (9 : Int)⟩ : Note)] H rfl (.cons rfl (Flat.rep_enc _ (⟨(0 : Int), (3 : Int), (8 : Int)⟩ : Note)) <| .cons rfl (Flat.rep_enc _ (⟨(0 : Int), (2 : Int), (7 : Int)⟩ : Note)) <| .cons rfl (Flat.rep_enc _ (⟨(1 : Int), (0 : Int), (9 : Int)⟩ : Note)) <| .nil) rfl rfl rfl ?_
 intro v146z w147z H
 refine s_val (x_bld (ps := [(0, I 2), (1, I 26)]) (zs := [I 0, I 0]) (L' := [I 2, I 26]) rfl Try.underlying33 Al33 rfl (Bd33 Try.underlying33) (.cons (cs := [I 2]) rfl rfl rfl rfl rfl <| .cons (cs := [I 26]) rfl rfl rfl rfl rfl <| .nil)) <| s_val (x_bld (ps := [(0, I 3), (1, I 10)]) (zs := [I 0, I 0]) (L' := [I 3, I 10]) rfl Try.underlying33 Al33 rfl (Bd33 Try.underlying33) (.cons (cs := [I 3]) rfl rfl rfl rfl rfl <| .cons (cs := [I 10]) rfl rfl rfl rfl rfl <| .nil)) ?_
 refine t_bs (α := Pub) T24 [.agg #[I 2, I 26], .agg #[I 3, I 10]] [(⟨(2 : Int), (26 : Int)⟩ : Pub), (⟨(3 : Int), (10 : Int)⟩ : Pub)] H rfl (.cons rfl (Flat.rep_enc _ (⟨(2 : Int), (26 : Int)⟩ : Pub)) <| .cons rfl (Flat.rep_enc _ (⟨(3 : Int), (10 : Int)⟩ : Pub)) <| .nil) rfl rfl rfl ?_
 intro v148z w149z H
 obtain ⟨⟨l5, e5⟩, hx153z, hM⟩ := M.e_bind hM
 obtain ⟨hq154z, hq155z⟩ := Prod.mk.inj (M.e_pure hx153z)
 try dsimp only at hM
 refine s_call cf26 [u0_53, v146z, v148z] rfl (by have hc_ := (Withdrawn_any _ ((rowSl rfl (H.get (k := 2) rfl) (roLe _ (H.get (k := 3) rfl)) hf145z).mono (Cells.sup_le (ownLe _ (H.get (k := 2) rfl)) (roLe _ (H.get (k := 3) rfl)))) ((ownSl (H.get (k := 1) rfl)).mono (ownLe _ (H.get (k := 1) rfl))) ((ownSl (H.get (k := 0) rfl)).mono (ownLe _ (H.get (k := 0) rfl)))); rw [hq154z, hq155z] at hc_; exact hc_) ?_
 rintro _ w150z ⟨u151z, rfl, hs152z, hx_⟩
 obtain ⟨Bs_58, H, hs152z⟩ := H.fresh hx_ hs152z
 clear hx_
 have hl_hs152z := hs152z.len_le
 refine sM (.tuple #[u151z, I e5]) rfl <| sX [u151z, I e5] u151z rfl rfl <| sX [u151z, I e5] (I e5) rfl rfl <| sA u151z rfl <| sA (I e5) rfl <| s_nil <| sQ rfl <| sM (I e5) rfl <| sC e5 0 (e5 == 0) rfl rfl rfl <| sM (B (e5 == 0)) rfl <| g_val (e5 == 0) (gy_t rfl) (fun hg => x_mv (v := u151z) rfl) ?_
 refine t_gbs (α := Int) T34 (e5 == 0) (gy_t rfl) [I 0] [(0 : Int)] H (fun _ => rfl) (.cons rfl (Flat.rep_enc _ _) <| .nil) rfl rfl rfl ?_
 intro v156z Bs_59 w157z H hf158z
 obtain ⟨s6, hx159z, hM⟩ := M.e_bind hM
 replace hx159z := M.e_pure hx159z
 refine t_gcall (e5 == 0) (gy_t rfl) cf25 (B s6) (fun _ => [u151z, v156z]) (fun hg => lst2 (gd_of (c := e5 == 0) hg (u151z)) (gd_of (c := e5 == 0) hg (v156z))) H (fun hg => Ret.mono (same_int _ (hs152z.mono (roLe _ (H.get (k := 1) rfl))) ((hf158z hg).mono (roLe _ (H.get (k := 0) rfl)))) fun v_ w_ ⟨hv_, hx_⟩ => ⟨hv_.trans (congrArg B hx159z), H.ext hx_⟩) ?_
 intro w160z H
 refine s_val (x_pand (b := e5 == 0) (r := s6) rfl (fun hb => gd_of (c := e5 == 0) (by first | exact hb | (rw [hb]; rfl) | simp_all) (B s6)) rfl) <| sA (B ((e5 == 0) && s6)) rfl <| s_nil ?_
 refine W.ret ?_
 have hr_ := M.e_pure hM
 exact ⟨_, resE_tmp rfl, ⟨((e5 == 0) && s6), hr_, rfl, (H.pick [] (by decide) rfl)⟩⟩

end Go.Proofs.Ytndobgodeicloaa
end
section
set_option maxRecDepth 100000
set_option maxHeartbeats 16000000
namespace Go.Proofs.Ytndobgodeicloaa
open Go Go.Nm
def m_nilometerkit_New (bytes : List UInt8) : M (Int × Int) :=
  M.pure (0, 0)
theorem nilometerkit_New_ok {R : List Chunk} {C_bytes : Cells} {v_bytes : Value} (bytes : List UInt8) (hC_bytes : Reads R C_bytes) (hs_bytes : Sl C_bytes v_bytes bytes) {r : (Int × Int)} (hM : (m_nilometerkit_New bytes).Ends r) (w : World) (H : St w w [] R) : Ret Try.prog 40 #[v_bytes] w fun v w' => ∃ (y0 : Int) (y1 : Int) (nb0 : Nat), (y0, y1) = r ∧ v = Pz nb0 ∧ St w w' [cBlk nb0 [v_bytes, I y0, I y1] 158] R := by
 refine ret_of_W Try.func40 rfl rfl rfl ?_
 refine sQ rfl <| sA (.pointer none) rfl <| s_nil <| sQ rfl <| sM v_bytes rfl <| s_val (x_bld (ps := [(0, v_bytes)]) (zs := [.slice none 0 0, I 0, I 0]) (L' := [v_bytes, I 0, I 0]) rfl Try.underlying158 Al158 rfl (Bd158 Try.underlying158) (.cons (cs := [v_bytes]) (Sl.cells hs_bytes) rfl rfl rfl rfl <| .nil)) ?_
 refine t_box (v := .agg #[v_bytes, I 0, I 0]) (cs := [v_bytes, I 0, I 0]) H rfl rfl ?_
 intro b_1 w1z H
 refine sA (Pz b_1) rfl <| s_nil ?_
 refine W.ret ?_
 have hr_ := M.e_pure hM
 exact ⟨_, resE_tmp rfl, ⟨0, 0, b_1, hr_, rfl, H⟩⟩

def m_nilometerkit_Stream_Next (s_bytes : List UInt8) (s_used : Int) (s_mix : Int) (n : Int) : M (Int × Int × Int) :=
  bif ((decide (n < 2)) || ((s_bytes.length : Int) == 0)) then (
  M.pure (0, s_used, s_mix))
  else (
  M.grd (decide ((0 : Int) ≤ s_used) && decide ((0 : Int) < (s_bytes.length : Int))) <|
  M.grd (decide ((0 : Int) ≤ (s_used % (s_bytes.length : Int))) && decide ((s_used % (s_bytes.length : Int)) < (s_bytes.length : Int))) <|
  M.grd (decide ((0 : Int) ≤ ((s_bytes.getD (Int.toNat (s_used % (s_bytes.length : Int))) 0).toNat : Int)) && decide (((s_bytes.getD (Int.toNat (s_used % (s_bytes.length : Int))) 0).toNat : Int) < (256 : Int))) <|
  bif decide ((s_bytes.length : Int) ≤ s_used) then (
  M.grd (decide ((-9223372036854775808 : Int) ≤ (11 * s_mix)) && decide ((11 * s_mix) ≤ (9223372036854775807 : Int))) <|
  M.grd (decide (0 ≤ s_used) && decide (s_used ≤ (9223372036854775807 : Int)) && decide ((0 : Int) < (s_bytes.length : Int))) <|
  M.grd (decide ((-9223372036854775808 : Int) ≤ ((11 * s_mix) + (s_used / (s_bytes.length : Int)))) && decide (((11 * s_mix) + (s_used / (s_bytes.length : Int))) ≤ (9223372036854775807 : Int))) <|
  M.grd (decide ((-9223372036854775808 : Int) ≤ (((s_bytes.getD (Int.toNat (s_used % (s_bytes.length : Int))) 0).toNat : Int) + ((11 * s_mix) + (s_used / (s_bytes.length : Int))))) && decide ((((s_bytes.getD (Int.toNat (s_used % (s_bytes.length : Int))) 0).toNat : Int) + ((11 * s_mix) + (s_used / (s_bytes.length : Int)))) ≤ (9223372036854775807 : Int))) <|
  M.grd (decide ((-9223372036854775808 : Int) ≤ (5 * s_mix)) && decide ((5 * s_mix) ≤ (9223372036854775807 : Int))) <|
  M.grd (decide ((-9223372036854775808 : Int) ≤ ((5 * s_mix) + (((s_bytes.getD (Int.toNat (s_used % (s_bytes.length : Int))) 0).toNat : Int) + ((11 * s_mix) + (s_used / (s_bytes.length : Int)))))) && decide (((5 * s_mix) + (((s_bytes.getD (Int.toNat (s_used % (s_bytes.length : Int))) 0).toNat : Int) + ((11 * s_mix) + (s_used / (s_bytes.length : Int))))) ≤ (9223372036854775807 : Int))) <|
  M.grd (decide ((-9223372036854775808 : Int) ≤ (((5 * s_mix) + (((s_bytes.getD (Int.toNat (s_used % (s_bytes.length : Int))) 0).toNat : Int) + ((11 * s_mix) + (s_used / (s_bytes.length : Int))))) + 1)) && decide ((((5 * s_mix) + (((s_bytes.getD (Int.toNat (s_used % (s_bytes.length : Int))) 0).toNat : Int) + ((11 * s_mix) + (s_used / (s_bytes.length : Int))))) + 1) ≤ (9223372036854775807 : Int))) <|
  M.grd (decide ((0 : Int) ≤ (((5 * s_mix) + (((s_bytes.getD (Int.toNat (s_used % (s_bytes.length : Int))) 0).toNat : Int) + ((11 * s_mix) + (s_used / (s_bytes.length : Int))))) + 1)) && decide ((0 : Int) < 251)) <|
  M.grd (decide ((-9223372036854775808 : Int) ≤ (s_used + 1)) && decide ((s_used + 1) ≤ (9223372036854775807 : Int))) <|
  bif decide (256 < n) then (
  M.grd (decide ((-9223372036854775808 : Int) ≤ (256 * (((s_bytes.getD (Int.toNat (s_used % (s_bytes.length : Int))) 0).toNat : Int) + ((11 * s_mix) + (s_used / (s_bytes.length : Int)))))) && decide ((256 * (((s_bytes.getD (Int.toNat (s_used % (s_bytes.length : Int))) 0).toNat : Int) + ((11 * s_mix) + (s_used / (s_bytes.length : Int))))) ≤ (9223372036854775807 : Int))) <|
  M.grd (decide ((-9223372036854775808 : Int) ≤ ((256 * (((s_bytes.getD (Int.toNat (s_used % (s_bytes.length : Int))) 0).toNat : Int) + ((11 * s_mix) + (s_used / (s_bytes.length : Int))))) + ((((5 * s_mix) + (((s_bytes.getD (Int.toNat (s_used % (s_bytes.length : Int))) 0).toNat : Int) + ((11 * s_mix) + (s_used / (s_bytes.length : Int))))) + 1) % 251))) && decide (((256 * (((s_bytes.getD (Int.toNat (s_used % (s_bytes.length : Int))) 0).toNat : Int) + ((11 * s_mix) + (s_used / (s_bytes.length : Int))))) + ((((5 * s_mix) + (((s_bytes.getD (Int.toNat (s_used % (s_bytes.length : Int))) 0).toNat : Int) + ((11 * s_mix) + (s_used / (s_bytes.length : Int))))) + 1) % 251)) ≤ (9223372036854775807 : Int))) <|
  M.grd (decide ((0 : Int) ≤ ((256 * (((s_bytes.getD (Int.toNat (s_used % (s_bytes.length : Int))) 0).toNat : Int) + ((11 * s_mix) + (s_used / (s_bytes.length : Int))))) + ((((5 * s_mix) + (((s_bytes.getD (Int.toNat (s_used % (s_bytes.length : Int))) 0).toNat : Int) + ((11 * s_mix) + (s_used / (s_bytes.length : Int))))) + 1) % 251))) && decide ((0 : Int) < n)) <|
  M.pure ((((256 * (((s_bytes.getD (Int.toNat (s_used % (s_bytes.length : Int))) 0).toNat : Int) + ((11 * s_mix) + (s_used / (s_bytes.length : Int))))) + ((((5 * s_mix) + (((s_bytes.getD (Int.toNat (s_used % (s_bytes.length : Int))) 0).toNat : Int) + ((11 * s_mix) + (s_used / (s_bytes.length : Int))))) + 1) % 251)) % n), (s_used + 1), ((((5 * s_mix) + (((s_bytes.getD (Int.toNat (s_used % (s_bytes.length : Int))) 0).toNat : Int) + ((11 * s_mix) + (s_used / (s_bytes.length : Int))))) + 1) % 251)))
  else (
  M.grd (decide ((0 : Int) ≤ (((s_bytes.getD (Int.toNat (s_used % (s_bytes.length : Int))) 0).toNat : Int) + ((11 * s_mix) + (s_used / (s_bytes.length : Int))))) && decide ((0 : Int) < n)) <|
  M.pure (((((s_bytes.getD (Int.toNat (s_used % (s_bytes.length : Int))) 0).toNat : Int) + ((11 * s_mix) + (s_used / (s_bytes.length : Int)))) % n), (s_used + 1), ((((5 * s_mix) + (((s_bytes.getD (Int.toNat (s_used % (s_bytes.length : Int))) 0).toNat : Int) + ((11 * s_mix) + (s_used / (s_bytes.length : Int))))) + 1) % 251))))
  else (
  M.grd (decide ((-9223372036854775808 : Int) ≤ (5 * s_mix)) && decide ((5 * s_mix) ≤ (9223372036854775807 : Int))) <|
  M.grd (decide ((-9223372036854775808 : Int) ≤ ((5 * s_mix) + ((s_bytes.getD (Int.toNat (s_used % (s_bytes.length : Int))) 0).toNat : Int))) && decide (((5 * s_mix) + ((s_bytes.getD (Int.toNat (s_used % (s_bytes.length : Int))) 0).toNat : Int)) ≤ (9223372036854775807 : Int))) <|
  M.grd (decide ((-9223372036854775808 : Int) ≤ (((5 * s_mix) + ((s_bytes.getD (Int.toNat (s_used % (s_bytes.length : Int))) 0).toNat : Int)) + 1)) && decide ((((5 * s_mix) + ((s_bytes.getD (Int.toNat (s_used % (s_bytes.length : Int))) 0).toNat : Int)) + 1) ≤ (9223372036854775807 : Int))) <|
  M.grd (decide ((0 : Int) ≤ (((5 * s_mix) + ((s_bytes.getD (Int.toNat (s_used % (s_bytes.length : Int))) 0).toNat : Int)) + 1)) && decide ((0 : Int) < 251)) <|
  M.grd (decide ((-9223372036854775808 : Int) ≤ (s_used + 1)) && decide ((s_used + 1) ≤ (9223372036854775807 : Int))) <|
  bif decide (256 < n) then (
  M.grd (decide ((-9223372036854775808 : Int) ≤ (256 * ((s_bytes.getD (Int.toNat (s_used % (s_bytes.length : Int))) 0).toNat : Int))) && decide ((256 * ((s_bytes.getD (Int.toNat (s_used % (s_bytes.length : Int))) 0).toNat : Int)) ≤ (9223372036854775807 : Int))) <|
  M.grd (decide ((-9223372036854775808 : Int) ≤ ((256 * ((s_bytes.getD (Int.toNat (s_used % (s_bytes.length : Int))) 0).toNat : Int)) + ((((5 * s_mix) + ((s_bytes.getD (Int.toNat (s_used % (s_bytes.length : Int))) 0).toNat : Int)) + 1) % 251))) && decide (((256 * ((s_bytes.getD (Int.toNat (s_used % (s_bytes.length : Int))) 0).toNat : Int)) + ((((5 * s_mix) + ((s_bytes.getD (Int.toNat (s_used % (s_bytes.length : Int))) 0).toNat : Int)) + 1) % 251)) ≤ (9223372036854775807 : Int))) <|
  M.grd (decide ((0 : Int) ≤ ((256 * ((s_bytes.getD (Int.toNat (s_used % (s_bytes.length : Int))) 0).toNat : Int)) + ((((5 * s_mix) + ((s_bytes.getD (Int.toNat (s_used % (s_bytes.length : Int))) 0).toNat : Int)) + 1) % 251))) && decide ((0 : Int) < n)) <|
  M.pure ((((256 * ((s_bytes.getD (Int.toNat (s_used % (s_bytes.length : Int))) 0).toNat : Int)) + ((((5 * s_mix) + ((s_bytes.getD (Int.toNat (s_used % (s_bytes.length : Int))) 0).toNat : Int)) + 1) % 251)) % n), (s_used + 1), ((((5 * s_mix) + ((s_bytes.getD (Int.toNat (s_used % (s_bytes.length : Int))) 0).toNat : Int)) + 1) % 251)))
  else (
  M.grd (decide ((0 : Int) ≤ ((s_bytes.getD (Int.toNat (s_used % (s_bytes.length : Int))) 0).toNat : Int)) && decide ((0 : Int) < n)) <|
  M.pure ((((s_bytes.getD (Int.toNat (s_used % (s_bytes.length : Int))) 0).toNat : Int) % n), (s_used + 1), ((((5 * s_mix) + ((s_bytes.getD (Int.toNat (s_used % (s_bytes.length : Int))) 0).toNat : Int)) + 1) % 251)))))
theorem nilometerkit_Stream_Next_ok {R : List Chunk} {b_s : Nat} {C_s_bytes : Cells} {v_s_bytes : Value} (s_bytes : List UInt8) (s_used : Int) (s_mix : Int) (n : Int) (hC_s_bytes : Reads R C_s_bytes) (hs_s_bytes : Sl C_s_bytes v_s_bytes s_bytes) {r : (Int × Int × Int)} (hM : (m_nilometerkit_Stream_Next s_bytes s_used s_mix n).Ends r) (w : World) (H : St w w [cBlk b_s [v_s_bytes, I s_used, I s_mix] 158] R) : Ret Try.prog 44 #[Pz b_s, I n] w fun v w' => ∃ (y0 : Int) (y1 : Int) (y2 : Int), (y0, y1, y2) = r ∧ v = I y0 ∧ St w w' [cBlk b_s [v_s_bytes, I y1, I y2] 158] R := by
 refine ret_of_W Try.func44 rfl rfl rfl ?_
 refine sQ rfl <| sA (I 0) rfl <| s_nil <| W.seq <| sQ rfl <| sM (I n) rfl <| sC n 2 (decide (n < 2)) rfl rfl rfl <| sM (B (decide (n < 2))) rfl <| g_val (!(decide (n < 2))) (gy_f rfl) (fun hg => x_mv (v := Pz b_s) rfl) <| g_val (!(decide (n < 2))) (gy_f rfl) (fun hg => x_nc (a := ⟨b_s, 0, none⟩) (gd_of (c := !(decide (n < 2))) hg (Pz b_s))) ?_
 refine g_val (!(decide (n < 2))) (gy_f rfl) (fun hg => x_fa (a := Pz b_s) (v := Pz b_s) (gd_of (c := !(decide (n < 2))) hg (Pz b_s)) (fa_blk (o := 0) Fd158_0 Sz62)) <| g_val (!(decide (n < 2))) (gy_f rfl) (fun hg => x_ld (p := Pz b_s) (v := v_s_bytes) (gd_of (c := !(decide (n < 2))) hg (Pz b_s)) (ldb_sc Sc62 (H.blk (k := 0) rfl) rfl)) <| g_val (!(decide (n < 2))) (gy_f rfl) (fun hg => x_lenS T62.und (gd_of (c := !(decide (n < 2))) hg (v_s_bytes)) hs_s_bytes) <| g_val (!(decide (n < 2))) (gy_f rfl) (fun hg => x_cmp (kd := .i64) (a := (s_bytes.length : Int)) (b := 0) (r := (s_bytes.length : Int) == 0) (gd_of (c := !(decide (n < 2))) hg (I (s_bytes.length : Int))) rfl rfl) <| s_val (x_por (b := decide (n < 2)) (r := (s_bytes.length : Int) == 0) rfl rfl (fun hb => gd_of (c := !(decide (n < 2))) (by first | exact hb | (rw [hb]; rfl) | simp_all) (B ((s_bytes.length : Int) == 0)))) <| s_nil ?_
 refine W.cond ((decide (n < 2)) || ((s_bytes.length : Int) == 0)) rfl (fun c2z => ?_) (fun c2z => ?_)
 ·replace hM := M.e_t hM c2z
  refine sQ rfl <| sA (I 0) rfl <| s_nil ?_
  refine W.ret ?_
  have hr_ := M.e_pure hM
  exact ⟨_, resE_tmp rfl, ⟨0, s_used, s_mix, hr_, rfl, H⟩⟩
 replace hM := M.e_f hM c2z
 refine W.skip <| W.seq ?_
 refine W.draw (fun W => St w W [cBlk b_s [v_s_bytes, I s_used, I s_mix] 158] R) [(0, true), (1, true), (2, true), (3, true), (4, true), (5, true), (6, true), (7, true), (8, true), (9, true), (10, true), (11, true), (12, true), (13, true), (14, true), (15, true), (16, true), (17, true)] mixed (by decide +kernel) rfl ?_
 intro w3z hx_
 replace H : St w w3z [cBlk b_s [v_s_bytes, I s_used, I s_mix] 158] R := H.ext hx_
 clear hx_
 refine ⟨(H.pick [0] (by decide) rfl), ?_⟩
 refine d_q rfl (fun w' H => x_mv (v := Pz b_s) rfl) ?_
 refine d_q rfl (fun w' H => x_nc (a := ⟨b_s, 0, none⟩) rfl) ?_
 refine d_q rfl (fun w' H => x_fa (a := Pz b_s) (v := Pz b_s) rfl (fa_blk (o := 0) Fd158_0 Sz62)) ?_
 refine d_q rfl (fun w' H => x_ld (p := Pz b_s) (v := v_s_bytes) rfl (ldb_sc Sc62 (H.blk (k := 0) rfl) rfl)) ?_
 refine d_q rfl (fun w' H => x_mv (v := Pz b_s) rfl) ?_
 refine d_q rfl (fun w' H => x_nc (a := ⟨b_s, 0, none⟩) rfl) ?_
 refine d_q rfl (fun w' H => x_fa (a := Pz b_s) (v := Oz b_s 1) rfl (fa_blk (o := 0) Fd158_1 Sz3)) ?_
 refine d_q rfl (fun w' H => x_ld (p := Oz b_s 1) (v := I s_used) rfl (ldb_sc Sc3 (H.blk (k := 0) rfl) rfl)) ?_
 refine d_q rfl (fun w' H => x_mv (v := Pz b_s) rfl) ?_
 refine d_q rfl (fun w' H => x_nc (a := ⟨b_s, 0, none⟩) rfl) ?_
 refine d_q rfl (fun w' H => x_fa (a := Pz b_s) (v := Pz b_s) rfl (fa_blk (o := 0) Fd158_0 Sz62)) ?_
 refine d_q rfl (fun w' H => x_ld (p := Pz b_s) (v := v_s_bytes) rfl (ldb_sc Sc62 (H.blk (k := 0) rfl) rfl)) ?_
 have hl4z := (hs_s_bytes).len_le
 refine d_q rfl (fun w' H => x_lenS T62.und rfl hs_s_bytes) ?_
 obtain ⟨sd5z, hM⟩ := M.e_gd hM
 refine d_q rfl (fun w' H => x_rem' (a := s_used) (b := (s_bytes.length : Int)) rfl rfl (by omega)) ?_
 obtain ⟨sd6z, hM⟩ := M.e_gd hM
 refine d_q rfl (fun w' H => x_ix (a := v_s_bytes) (b := I (s_used % (s_bytes.length : Int))) (v := vat v_s_bytes 1 (Int.toNat (s_used % (s_bytes.length : Int)))) rfl rfl (Sl.ix (α := UInt8) T62.und T62.size hs_s_bytes (by omega) (by omega))) ?_
 refine d_q rfl (fun w' H => x_ld (p := vat v_s_bytes 1 (Int.toNat (s_used % (s_bytes.length : Int)))) (v := .int .u8 (((s_bytes.getD (Int.toNat (s_used % (s_bytes.length : Int))) 0).toNat : Int))) rfl (ld_sc Sc5 (At.mono (UInt8_at hs_s_bytes (i := s_used % (s_bytes.length : Int)) (by omega) (by omega)) (hC_s_bytes.at H)))) ?_
 obtain ⟨sd7z, hM⟩ := M.e_gd hM
 refine d_q rfl (fun w' H => x_conv64 (kd := .u8) (a := ((s_bytes.getD (Int.toNat (s_used % (s_bytes.length : Int))) 0).toNat : Int)) Try.underlying5 Try.underlying3 rfl (by omega)) ?_
 refine d_q rfl (fun w' H => x_as (v := I ((s_bytes.getD (Int.toNat (s_used % (s_bytes.length : Int))) 0).toNat : Int)) rfl) ?_
 refine d_nil ?_
 refine W.seq <| W.seq ?_
 refine W.draw (fun W => St w W [cBlk b_s [v_s_bytes, I s_used, I s_mix] 158] R) [(0, true), (1, true), (2, true), (3, true), (4, true), (5, true), (6, true), (7, true), (8, true), (9, true)] mixed (by decide +kernel) rfl ?_
 intro w8z hx_
 replace H : St w w8z [cBlk b_s [v_s_bytes, I s_used, I s_mix] 158] R := H.ext hx_
 clear hx_
 refine ⟨(H.pick [0] (by decide) rfl), ?_⟩
 refine d_q rfl (fun w' H => x_mv (v := Pz b_s) rfl) ?_
 refine d_q rfl (fun w' H => x_nc (a := ⟨b_s, 0, none⟩) rfl) ?_
 refine d_q rfl (fun w' H => x_fa (a := Pz b_s) (v := Oz b_s 1) rfl (fa_blk (o := 0) Fd158_1 Sz3)) ?_
 refine d_q rfl (fun w' H => x_ld (p := Oz b_s 1) (v := I s_used) rfl (ldb_sc Sc3 (H.blk (k := 0) rfl) rfl)) ?_
 refine d_q rfl (fun w' H => x_mv (v := Pz b_s) rfl) ?_
 refine d_q rfl (fun w' H => x_nc (a := ⟨b_s, 0, none⟩) rfl) ?_
 refine d_q rfl (fun w' H => x_fa (a := Pz b_s) (v := Pz b_s) rfl (fa_blk (o := 0) Fd158_0 Sz62)) ?_
 refine d_q rfl (fun w' H => x_ld (p := Pz b_s) (v := v_s_bytes) rfl (ldb_sc Sc62 (H.blk (k := 0) rfl) rfl)) ?_
 have hl9z := (hs_s_bytes).len_le
 refine d_q rfl (fun w' H => x_lenS T62.und rfl hs_s_bytes) ?_
 refine d_q rfl (fun w' H => x_cmp (kd := .i64) (a := s_used) (b := (s_bytes.length : Int)) (r := decide ((s_bytes.length : Int) ≤ s_used)) rfl rfl rfl) ?_
 refine d_nil ?_
 refine W.cond (decide ((s_bytes.length : Int) ≤ s_used)) rfl (fun c10z => ?_) (fun c10z => ?_)
 ·replace hM := M.e_t hM c10z
  simp only [qz1, qz2, qz3, qz4, qz5, qz6, ne_eq, qz7] at c10z
  refine W.draw (fun W => St w W [cBlk b_s [v_s_bytes, I s_used, I s_mix] 158] R) [(0, true), (1, true), (2, true), (3, true), (4, true), (5, true), (6, true), (7, true), (8, true), (9, true), (10, true), (11, true), (12, true), (13, true), (14, true), (15, true), (16, true), (17, true), (18, true)] mixed (by decide +kernel) rfl ?_
  intro w11z hx_
  replace H : St w w11z [cBlk b_s [v_s_bytes, I s_used, I s_mix] 158] R := H.ext hx_
  clear hx_
  refine ⟨(H.pick [0] (by decide) rfl), ?_⟩
  refine d_q rfl (fun w' H => x_mv (v := I ((s_bytes.getD (Int.toNat (s_used % (s_bytes.length : Int))) 0).toNat : Int)) rfl) ?_
  refine d_q rfl (fun w' H => x_mv (v := Pz b_s) rfl) ?_
  refine d_q rfl (fun w' H => x_nc (a := ⟨b_s, 0, none⟩) rfl) ?_
  refine d_q rfl (fun w' H => x_fa (a := Pz b_s) (v := Oz b_s 2) rfl (fa_blk (o := 0) Fd158_2 Sz3)) ?_
  refine d_q rfl (fun w' H => x_ld (p := Oz b_s 2) (v := I s_mix) rfl (ldb_sc Sc3 (H.blk (k := 0) rfl) rfl)) ?_
  obtain ⟨sd12z, hM⟩ := M.e_gd hM
  refine d_q rfl (fun w' H => x_ari (a := 11) (b := s_mix) (r := 11 * s_mix) rfl rfl rfl (by omega)) ?_
  refine d_q rfl (fun w' H => x_mv (v := Pz b_s) rfl) ?_
  refine d_q rfl (fun w' H => x_nc (a := ⟨b_s, 0, none⟩) rfl) ?_
  refine d_q rfl (fun w' H => x_fa (a := Pz b_s) (v := Oz b_s 1) rfl (fa_blk (o := 0) Fd158_1 Sz3)) ?_
  refine d_q rfl (fun w' H => x_ld (p := Oz b_s 1) (v := I s_used) rfl (ldb_sc Sc3 (H.blk (k := 0) rfl) rfl)) ?_
  refine d_q rfl (fun w' H => x_mv (v := Pz b_s) rfl) ?_
  refine d_q rfl (fun w' H => x_nc (a := ⟨b_s, 0, none⟩) rfl) ?_
  refine d_q rfl (fun w' H => x_fa (a := Pz b_s) (v := Pz b_s) rfl (fa_blk (o := 0) Fd158_0 Sz62)) ?_
  refine d_q rfl (fun w' H => x_ld (p := Pz b_s) (v := v_s_bytes) rfl (ldb_sc Sc62 (H.blk (k := 0) rfl) rfl)) ?_
  have hl13z := (hs_s_bytes).len_le
  refine d_q rfl (fun w' H => x_lenS T62.und rfl hs_s_bytes) ?_
  obtain ⟨sd14z, hM⟩ := M.e_gd hM
  refine d_q rfl (fun w' H => x_quo (a := s_used) (b := (s_bytes.length : Int)) rfl rfl (by omega)) ?_
  obtain ⟨sd15z, hM⟩ := M.e_gd hM
  refine d_q rfl (fun w' H => x_ari (a := 11 * s_mix) (b := s_used / (s_bytes.length : Int)) (r := (11 * s_mix) + (s_used / (s_bytes.length : Int))) rfl rfl rfl (by omega)) ?_
  obtain ⟨sd16z, hM⟩ := M.e_gd hM
  refine d_q rfl (fun w' H => x_ari (a := ((s_bytes.getD (Int.toNat (s_used % (s_bytes.length : Int))) 0).toNat : Int)) (b := (11 * s_mix) + (s_used / (s_bytes.length : Int))) (r := ((s_bytes.getD (Int.toNat (s_used % (s_bytes.length : Int))) 0).toNat : Int) + ((11 * s_mix) + (s_used / (s_bytes.length : Int)))) rfl rfl rfl (by omega)) ?_
  refine d_q rfl (fun w' H => x_as (v := I (((s_bytes.getD (Int.toNat (s_used % (s_bytes.length : Int))) 0).toNat : Int) + ((11 * s_mix) + (s_used / (s_bytes.length : Int))))) rfl) ?_
  refine d_nil ?_
  refine sQ rfl <| sM (Pz b_s) rfl <| sM (Pz b_s) rfl <| s_val (x_nc (a := ⟨b_s, 0, none⟩) rfl) <| s_val (x_fa (a := Pz b_s) (v := Oz b_s 2) rfl (fa_blk (o := 0) Fd158_2 Sz3)) <| s_val (x_ld (p := Oz b_s 2) (v := I s_mix) rfl (ldb_sc Sc3 (H.blk (k := 0) rfl) rfl)) ?_
  obtain ⟨sd17z, hM⟩ := M.e_gd hM
  refine sR 5 s_mix (5 * s_mix) rfl rfl rfl (by omega) <| sM (I (((s_bytes.getD (Int.toNat (s_used % (s_bytes.length : Int))) 0).toNat : Int) + ((11 * s_mix) + (s_used / (s_bytes.length : Int))))) rfl ?_
  obtain ⟨sd18z, hM⟩ := M.e_gd hM
  refine sR (5 * s_mix) (((s_bytes.getD (Int.toNat (s_used % (s_bytes.length : Int))) 0).toNat : Int) + ((11 * s_mix) + (s_used / (s_bytes.length : Int)))) ((5 * s_mix) + (((s_bytes.getD (Int.toNat (s_used % (s_bytes.length : Int))) 0).toNat : Int) + ((11 * s_mix) + (s_used / (s_bytes.length : Int))))) rfl rfl rfl (by omega) ?_
  obtain ⟨sd19z, hM⟩ := M.e_gd hM
  refine sR ((5 * s_mix) + (((s_bytes.getD (Int.toNat (s_used % (s_bytes.length : Int))) 0).toNat : Int) + ((11 * s_mix) + (s_used / (s_bytes.length : Int))))) 1 (((5 * s_mix) + (((s_bytes.getD (Int.toNat (s_used % (s_bytes.length : Int))) 0).toNat : Int) + ((11 * s_mix) + (s_used / (s_bytes.length : Int))))) + 1) rfl rfl rfl (by omega) ?_
  obtain ⟨sd20z, hM⟩ := M.e_gd hM
  refine s_val (x_rem' (a := ((5 * s_mix) + (((s_bytes.getD (Int.toNat (s_used % (s_bytes.length : Int))) 0).toNat : Int) + ((11 * s_mix) + (s_used / (s_bytes.length : Int))))) + 1) (b := 251) rfl rfl (by omega)) <| s_val (x_nc (a := ⟨b_s, 0, none⟩) rfl) <| s_val (x_fa (a := Pz b_s) (v := Oz b_s 2) rfl (fa_blk (o := 0) Fd158_2 Sz3)) ?_
  refine t_st (k := 0) (b := b_s) (off := 2) (cs := [v_s_bytes, I s_used, I s_mix]) (vs := [I ((((5 * s_mix) + (((s_bytes.getD (Int.toNat (s_used % (s_bytes.length : Int))) 0).toNat : Int) + ((11 * s_mix) + (s_used / (s_bytes.length : Int))))) + 1) % 251)]) (cs' := [v_s_bytes, I s_used, I ((((5 * s_mix) + (((s_bytes.getD (Int.toNat (s_used % (s_bytes.length : Int))) 0).toNat : Int) + ((11 * s_mix) + (s_used / (s_bytes.length : Int))))) + 1) % 251)]) (v := I ((((5 * s_mix) + (((s_bytes.getD (Int.toNat (s_used % (s_bytes.length : Int))) 0).toNat : Int) + ((11 * s_mix) + (s_used / (s_bytes.length : Int))))) + 1) % 251)) (L' := [cBlk b_s [v_s_bytes, I s_used, I ((((5 * s_mix) + (((s_bytes.getD (Int.toNat (s_used % (s_bytes.length : Int))) 0).toNat : Int) + ((11 * s_mix) + (s_used / (s_bytes.length : Int))))) + 1) % 251)] 158]) H rfl rfl rfl Sz3 rfl rfl rfl rfl rfl rfl ?_
  intro w21z H
  refine s_nil <| sQ rfl <| sM (Pz b_s) rfl <| s_val (x_nc (a := ⟨b_s, 0, none⟩) rfl) <| s_val (x_fa (a := Pz b_s) (v := Oz b_s 1) rfl (fa_blk (o := 0) Fd158_1 Sz3)) <| s_val (x_ld (p := Oz b_s 1) (v := I s_used) rfl (ldb_sc Sc3 (H.blk (k := 0) rfl) rfl)) ?_
  obtain ⟨sd22z, hM⟩ := M.e_gd hM
  refine sR s_used 1 (s_used + 1) rfl rfl rfl (by omega) <| s_val (x_nc (a := ⟨b_s, 0, none⟩) rfl) <| s_val (x_fa (a := Pz b_s) (v := Oz b_s 1) rfl (fa_blk (o := 0) Fd158_1 Sz3)) ?_
  refine t_st (k := 0) (b := b_s) (off := 1) (cs := [v_s_bytes, I s_used, I ((((5 * s_mix) + (((s_bytes.getD (Int.toNat (s_used % (s_bytes.length : Int))) 0).toNat : Int) + ((11 * s_mix) + (s_used / (s_bytes.length : Int))))) + 1) % 251)]) (vs := [I (s_used + 1)]) (cs' := [v_s_bytes, I (s_used + 1), I ((((5 * s_mix) + (((s_bytes.getD (Int.toNat (s_used % (s_bytes.length : Int))) 0).toNat : Int) + ((11 * s_mix) + (s_used / (s_bytes.length : Int))))) + 1) % 251)]) (v := I (s_used + 1)) (L' := [cBlk b_s [v_s_bytes, I (s_used + 1), I ((((5 * s_mix) + (((s_bytes.getD (Int.toNat (s_used % (s_bytes.length : Int))) 0).toNat : Int) + ((11 * s_mix) + (s_used / (s_bytes.length : Int))))) + 1) % 251)] 158]) H rfl rfl rfl Sz3 rfl rfl rfl rfl rfl rfl ?_
  intro w23z H
  refine s_nil <| W.seq <| sQ rfl <| sM (I n) rfl <| sC n 256 (decide (256 < n)) rfl rfl rfl <| s_nil ?_
  refine W.cond (decide (256 < n)) rfl (fun c24z => ?_) (fun c24z => ?_)
  ·replace hM := M.e_t hM c24z
   simp only [qz1, qz2, qz3, qz4, qz5, qz6, ne_eq, qz7] at c24z
   refine W.region rfl <| sM (I (((s_bytes.getD (Int.toNat (s_used % (s_bytes.length : Int))) 0).toNat : Int) + ((11 * s_mix) + (s_used / (s_bytes.length : Int))))) rfl ?_
   obtain ⟨sd25z, hM⟩ := M.e_gd hM
   refine sR 256 (((s_bytes.getD (Int.toNat (s_used % (s_bytes.length : Int))) 0).toNat : Int) + ((11 * s_mix) + (s_used / (s_bytes.length : Int)))) (256 * (((s_bytes.getD (Int.toNat (s_used % (s_bytes.length : Int))) 0).toNat : Int) + ((11 * s_mix) + (s_used / (s_bytes.length : Int))))) rfl rfl rfl (by omega) <| sM (Pz b_s) rfl <| s_val (x_nc (a := ⟨b_s, 0, none⟩) rfl) <| s_val (x_fa (a := Pz b_s) (v := Oz b_s 2) rfl (fa_blk (o := 0) Fd158_2 Sz3)) <| s_val (x_ld (p := Oz b_s 2) (v := I ((((5 * s_mix) + (((s_bytes.getD (Int.toNat (s_used % (s_bytes.length : Int))) 0).toNat : Int) + ((11 * s_mix) + (s_used / (s_bytes.length : Int))))) + 1) % 251)) rfl (ldb_sc Sc3 (H.blk (k := 0) rfl) rfl)) ?_
   obtain ⟨sd26z, hM⟩ := M.e_gd hM
   refine sR (256 * (((s_bytes.getD (Int.toNat (s_used % (s_bytes.length : Int))) 0).toNat : Int) + ((11 * s_mix) + (s_used / (s_bytes.length : Int))))) ((((5 * s_mix) + (((s_bytes.getD (Int.toNat (s_used % (s_bytes.length : Int))) 0).toNat : Int) + ((11 * s_mix) + (s_used / (s_bytes.length : Int))))) + 1) % 251) ((256 * (((s_bytes.getD (Int.toNat (s_used % (s_bytes.length : Int))) 0).toNat : Int) + ((11 * s_mix) + (s_used / (s_bytes.length : Int))))) + ((((5 * s_mix) + (((s_bytes.getD (Int.toNat (s_used % (s_bytes.length : Int))) 0).toNat : Int) + ((11 * s_mix) + (s_used / (s_bytes.length : Int))))) + 1) % 251)) rfl rfl rfl (by omega) <| sA (I ((256 * (((s_bytes.getD (Int.toNat (s_used % (s_bytes.length : Int))) 0).toNat : Int) + ((11 * s_mix) + (s_used / (s_bytes.length : Int))))) + ((((5 * s_mix) + (((s_bytes.getD (Int.toNat (s_used % (s_bytes.length : Int))) 0).toNat : Int) + ((11 * s_mix) + (s_used / (s_bytes.length : Int))))) + 1) % 251))) rfl <| s_nil <| sQ rfl <| sM (I ((256 * (((s_bytes.getD (Int.toNat (s_used % (s_bytes.length : Int))) 0).toNat : Int) + ((11 * s_mix) + (s_used / (s_bytes.length : Int))))) + ((((5 * s_mix) + (((s_bytes.getD (Int.toNat (s_used % (s_bytes.length : Int))) 0).toNat : Int) + ((11 * s_mix) + (s_used / (s_bytes.length : Int))))) + 1) % 251))) rfl <| sM (I n) rfl ?_
   obtain ⟨sd27z, hM⟩ := M.e_gd hM
   refine s_val (x_rem' (a := (256 * (((s_bytes.getD (Int.toNat (s_used % (s_bytes.length : Int))) 0).toNat : Int) + ((11 * s_mix) + (s_used / (s_bytes.length : Int))))) + ((((5 * s_mix) + (((s_bytes.getD (Int.toNat (s_used % (s_bytes.length : Int))) 0).toNat : Int) + ((11 * s_mix) + (s_used / (s_bytes.length : Int))))) + 1) % 251)) (b := n) rfl rfl (by omega)) <| sA (I (((256 * (((s_bytes.getD (Int.toNat (s_used % (s_bytes.length : Int))) 0).toNat : Int) + ((11 * s_mix) + (s_used / (s_bytes.length : Int))))) + ((((5 * s_mix) + (((s_bytes.getD (Int.toNat (s_used % (s_bytes.length : Int))) 0).toNat : Int) + ((11 * s_mix) + (s_used / (s_bytes.length : Int))))) + 1) % 251)) % n)) rfl <| s_nil ?_
   refine W.ret ?_
   have hr_ := M.e_pure hM
   exact ⟨_, resE_tmp rfl, ⟨(((256 * (((s_bytes.getD (Int.toNat (s_used % (s_bytes.length : Int))) 0).toNat : Int) + ((11 * s_mix) + (s_used / (s_bytes.length : Int))))) + ((((5 * s_mix) + (((s_bytes.getD (Int.toNat (s_used % (s_bytes.length : Int))) 0).toNat : Int) + ((11 * s_mix) + (s_used / (s_bytes.length : Int))))) + 1) % 251)) % n), (s_used + 1), ((((5 * s_mix) + (((s_bytes.getD (Int.toNat (s_used % (s_bytes.length : Int))) 0).toNat : Int) + ((11 * s_mix) + (s_used / (s_bytes.length : Int))))) + 1) % 251), hr_, rfl, H⟩⟩
  replace hM := M.e_f hM c24z
  simp only [qz1, qz2, qz3, qz4, qz5, qz6, ne_eq, qz7] at c24z
  refine W.skip <| sQ rfl <| sM (I (((s_bytes.getD (Int.toNat (s_used % (s_bytes.length : Int))) 0).toNat : Int) + ((11 * s_mix) + (s_used / (s_bytes.length : Int))))) rfl <| sM (I n) rfl ?_
  obtain ⟨sd28z, hM⟩ := M.e_gd hM
  refine s_val (x_rem' (a := ((s_bytes.getD (Int.toNat (s_used % (s_bytes.length : Int))) 0).toNat : Int) + ((11 * s_mix) + (s_used / (s_bytes.length : Int)))) (b := n) rfl rfl (by omega)) <| sA (I ((((s_bytes.getD (Int.toNat (s_used % (s_bytes.length : Int))) 0).toNat : Int) + ((11 * s_mix) + (s_used / (s_bytes.length : Int)))) % n)) rfl <| s_nil ?_
  refine W.ret ?_
  have hr_ := M.e_pure hM
  exact ⟨_, resE_tmp rfl, ⟨((((s_bytes.getD (Int.toNat (s_used % (s_bytes.length : Int))) 0).toNat : Int) + ((11 * s_mix) + (s_used / (s_bytes.length : Int)))) % n), (s_used + 1), ((((5 * s_mix) + (((s_bytes.getD (Int.toNat (s_used % (s_bytes.length : Int))) 0).toNat : Int) + ((11 * s_mix) + (s_used / (s_bytes.length : Int))))) + 1) % 251), hr_, rfl, H⟩⟩
 replace hM := M.e_f hM c10z
 simp only [qz1, qz2, qz3, qz4, qz5, qz6, ne_eq, qz7] at c10z
 refine W.skip <| sQ rfl <| sM (Pz b_s) rfl <| sM (Pz b_s) rfl <| s_val (x_nc (a := ⟨b_s, 0, none⟩) rfl) <| s_val (x_fa (a := Pz b_s) (v := Oz b_s 2) rfl (fa_blk (o := 0) Fd158_2 Sz3)) <| s_val (x_ld (p := Oz b_s 2) (v := I s_mix) rfl (ldb_sc Sc3 (H.blk (k := 0) rfl) rfl)) ?_
 obtain ⟨sd29z, hM⟩ := M.e_gd hM
 refine sR 5 s_mix (5 * s_mix) rfl rfl rfl (by omega) <| sM (I ((s_bytes.getD (Int.toNat (s_used % (s_bytes.length : Int))) 0).toNat : Int)) rfl ?_
 obtain ⟨sd30z, hM⟩ := M.e_gd hM
 refine sR (5 * s_mix) ((s_bytes.getD (Int.toNat (s_used % (s_bytes.length : Int))) 0).toNat : Int) ((5 * s_mix) + ((s_bytes.getD (Int.toNat (s_used % (s_bytes.length : Int))) 0).toNat : Int)) rfl rfl rfl (by omega) ?_
 obtain ⟨sd31z, hM⟩ := M.e_gd hM
 refine sR ((5 * s_mix) + ((s_bytes.getD (Int.toNat (s_used % (s_bytes.length : Int))) 0).toNat : Int)) 1 (((5 * s_mix) + ((s_bytes.getD (Int.toNat (s_used % (s_bytes.length : Int))) 0).toNat : Int)) + 1) rfl rfl rfl (by omega) ?_
 obtain ⟨sd32z, hM⟩ := M.e_gd hM
 refine s_val (x_rem' (a := ((5 * s_mix) + ((s_bytes.getD (Int.toNat (s_used % (s_bytes.length : Int))) 0).toNat : Int)) + 1) (b := 251) rfl rfl (by omega)) <| s_val (x_nc (a := ⟨b_s, 0, none⟩) rfl) <| s_val (x_fa (a := Pz b_s) (v := Oz b_s 2) rfl (fa_blk (o := 0) Fd158_2 Sz3)) ?_
 refine t_st (k := 0) (b := b_s) (off := 2) (cs := [v_s_bytes, I s_used, I s_mix]) (vs := [I ((((5 * s_mix) + ((s_bytes.getD (Int.toNat (s_used % (s_bytes.length : Int))) 0).toNat : Int)) + 1) % 251)]) (cs' := [v_s_bytes, I s_used, I ((((5 * s_mix) + ((s_bytes.getD (Int.toNat (s_used % (s_bytes.length : Int))) 0).toNat : Int)) + 1) % 251)]) (v := I ((((5 * s_mix) + ((s_bytes.getD (Int.toNat (s_used % (s_bytes.length : Int))) 0).toNat : Int)) + 1) % 251)) (L' := [cBlk b_s [v_s_bytes, I s_used, I ((((5 * s_mix) + ((s_bytes.getD (Int.toNat (s_used % (s_bytes.length : Int))) 0).toNat : Int)) + 1) % 251)] 158]) H rfl rfl rfl Sz3 rfl rfl rfl rfl rfl rfl ?_
 intro w33z H
 refine s_nil <| sQ rfl <| sM (Pz b_s) rfl <| s_val (x_nc (a := ⟨b_s, 0, none⟩) rfl) <| s_val (x_fa (a := Pz b_s) (v := Oz b_s 1) rfl (fa_blk (o := 0) Fd158_1 Sz3)) <| s_val (x_ld (p := Oz b_s 1) (v := I s_used) rfl (ldb_sc Sc3 (H.blk (k := 0) rfl) rfl)) ?_
 obtain ⟨sd34z, hM⟩ := M.e_gd hM
 refine sR s_used 1 (s_used + 1) rfl rfl rfl (by omega) <| s_val (x_nc (a := ⟨b_s, 0, none⟩) rfl) <| s_val (x_fa (a := Pz b_s) (v := Oz b_s 1) rfl (fa_blk (o := 0) Fd158_1 Sz3)) ?_
 refine t_st (k := 0) (b := b_s) (off := 1) (cs := [v_s_bytes, I s_used, I ((((5 * s_mix) + ((s_bytes.getD (Int.toNat (s_used % (s_bytes.length : Int))) 0).toNat : Int)) + 1) % 251)]) (vs := [I (s_used + 1)]) (cs' := [v_s_bytes, I (s_used + 1), I ((((5 * s_mix) + ((s_bytes.getD (Int.toNat (s_used % (s_bytes.length : Int))) 0).toNat : Int)) + 1) % 251)]) (v := I (s_used + 1)) (L' := [cBlk b_s [v_s_bytes, I (s_used + 1), I ((((5 * s_mix) + ((s_bytes.getD (Int.toNat (s_used % (s_bytes.length : Int))) 0).toNat : Int)) + 1) % 251)] 158]) H rfl rfl rfl Sz3 rfl rfl rfl rfl rfl rfl ?_
 intro w35z H
 refine s_nil <| W.seq <| sQ rfl <| sM (I n) rfl <| sC n 256 (decide (256 < n)) rfl rfl rfl <| s_nil ?_
 refine W.cond (decide (256 < n)) rfl (fun c36z => ?_) (fun c36z => ?_)
 ·replace hM := M.e_t hM c36z
  simp only [qz1, qz2, qz3, qz4, qz5, qz6, ne_eq, qz7] at c36z
  refine W.region rfl <| sM (I ((s_bytes.getD (Int.toNat (s_used % (s_bytes.length : Int))) 0).toNat : Int)) rfl ?_
  obtain ⟨sd37z, hM⟩ := M.e_gd hM
  refine sR 256 ((s_bytes.getD (Int.toNat (s_used % (s_bytes.length : Int))) 0).toNat : Int) (256 * ((s_bytes.getD (Int.toNat (s_used % (s_bytes.length : Int))) 0).toNat : Int)) rfl rfl rfl (by omega) <| sM (Pz b_s) rfl <| s_val (x_nc (a := ⟨b_s, 0, none⟩) rfl) <| s_val (x_fa (a := Pz b_s) (v := Oz b_s 2) rfl (fa_blk (o := 0) Fd158_2 Sz3)) <| s_val (x_ld (p := Oz b_s 2) (v := I ((((5 * s_mix) + ((s_bytes.getD (Int.toNat (s_used % (s_bytes.length : Int))) 0).toNat : Int)) + 1) % 251)) rfl (ldb_sc Sc3 (H.blk (k := 0) rfl) rfl)) ?_
  obtain ⟨sd38z, hM⟩ := M.e_gd hM
  refine sR (256 * ((s_bytes.getD (Int.toNat (s_used % (s_bytes.length : Int))) 0).toNat : Int)) ((((5 * s_mix) + ((s_bytes.getD (Int.toNat (s_used % (s_bytes.length : Int))) 0).toNat : Int)) + 1) % 251) ((256 * ((s_bytes.getD (Int.toNat (s_used % (s_bytes.length : Int))) 0).toNat : Int)) + ((((5 * s_mix) + ((s_bytes.getD (Int.toNat (s_used % (s_bytes.length : Int))) 0).toNat : Int)) + 1) % 251)) rfl rfl rfl (by omega) <| sA (I ((256 * ((s_bytes.getD (Int.toNat (s_used % (s_bytes.length : Int))) 0).toNat : Int)) + ((((5 * s_mix) + ((s_bytes.getD (Int.toNat (s_used % (s_bytes.length : Int))) 0).toNat : Int)) + 1) % 251))) rfl <| s_nil <| sQ rfl <| sM (I ((256 * ((s_bytes.getD (Int.toNat (s_used % (s_bytes.length : Int))) 0).toNat : Int)) + ((((5 * s_mix) + ((s_bytes.getD (Int.toNat (s_used % (s_bytes.length : Int))) 0).toNat : Int)) + 1) % 251))) rfl <| sM (I n) rfl ?_
  obtain ⟨sd39z, hM⟩ := M.e_gd hM
  refine s_val (x_rem' (a := (256 * ((s_bytes.getD (Int.toNat (s_used % (s_bytes.length : Int))) 0).toNat : Int)) + ((((5 * s_mix) + ((s_bytes.getD (Int.toNat (s_used % (s_bytes.length : Int))) 0).toNat : Int)) + 1) % 251)) (b := n) rfl rfl (by omega)) <| sA (I (((256 * ((s_bytes.getD (Int.toNat (s_used % (s_bytes.length : Int))) 0).toNat : Int)) + ((((5 * s_mix) + ((s_bytes.getD (Int.toNat (s_used % (s_bytes.length : Int))) 0).toNat : Int)) + 1) % 251)) % n)) rfl <| s_nil ?_
  refine W.ret ?_
  have hr_ := M.e_pure hM
  exact ⟨_, resE_tmp rfl, ⟨(((256 * ((s_bytes.getD (Int.toNat (s_used % (s_bytes.length : Int))) 0).toNat : Int)) + ((((5 * s_mix) + ((s_bytes.getD (Int.toNat (s_used % (s_bytes.length : Int))) 0).toNat : Int)) + 1) % 251)) % n), (s_used + 1), ((((5 * s_mix) + ((s_bytes.getD (Int.toNat (s_used % (s_bytes.length : Int))) 0).toNat : Int)) + 1) % 251), hr_, rfl, H⟩⟩
 replace hM := M.e_f hM c36z
 simp only [qz1, qz2, qz3, qz4, qz5, qz6, ne_eq, qz7] at c36z
 refine W.skip <| sQ rfl <| sM (I ((s_bytes.getD (Int.toNat (s_used % (s_bytes.length : Int))) 0).toNat : Int)) rfl <| sM (I n) rfl ?_
 obtain ⟨sd40z, hM⟩ := M.e_gd hM
 refine s_val (x_rem' (a := ((s_bytes.getD (Int.toNat (s_used % (s_bytes.length : Int))) 0).toNat : Int)) (b := n) rfl rfl (by omega)) <| sA (I (((s_bytes.getD (Int.toNat (s_used % (s_bytes.length : Int))) 0).toNat : Int) % n)) rfl <| s_nil ?_
 refine W.ret ?_
 have hr_ := M.e_pure hM
 exact ⟨_, resE_tmp rfl, ⟨(((s_bytes.getD (Int.toNat (s_used % (s_bytes.length : Int))) 0).toNat : Int) % n), (s_used + 1), ((((5 * s_mix) + ((s_bytes.getD (Int.toNat (s_used % (s_bytes.length : Int))) 0).toNat : Int)) + 1) % 251), hr_, rfl, H⟩⟩

def m_nilometerkit_Mixed_b0 (s_bytes : List UInt8) (n : Int) : (Int × Int × Nat × (List Int)) → M ((Int × Int × Nat × (List Int)) ⊕ ((List Int) × (List Int) × Int × Int)) := fun (s2, s3, i, l) =>
  bif decide ((i : Int) < n) then (
  M.grd (decide ((-9223372036854775808 : Int) ≤ ((i : Int) + 1)) && decide (((i : Int) + 1) ≤ (9223372036854775807 : Int))) <|
  M.bind (m_nilometerkit_Stream_Next s_bytes s2 s3 ((i : Int) + 1)) fun (r2, q1, q2) =>
  M.grd (decide ((l.length + ([(i : Int)]).length) * 8 ≤ 140737488355328)) <|
  M.grd (decide ((0 : Int) ≤ r2) && decide (r2 < ((l ++ ([(i : Int)])).length : Int))) <|
  M.grd (decide ((i : Int) < ((l ++ ([(i : Int)])).length : Int))) <|
  M.grd (decide ((0 : Int) ≤ r2) && decide (r2 < (((l ++ ([(i : Int)])).set i ((l ++ ([(i : Int)])).getD (Int.toNat r2) 0 : Int)).length : Int))) <|
  M.pure (.inl (q1, q2, i + 1, ((l ++ ([(i : Int)])).set i ((l ++ ([(i : Int)])).getD (Int.toNat r2) 0 : Int)).set (Int.toNat r2) ((l ++ ([(i : Int)])).getD i 0 : Int))))
  else (
  M.pure (.inr (l, l, s2, s3)))
def m_nilometerkit_Mixed (s_bytes : List UInt8) (s_used : Int) (s_mix : Int) (n : Int) : M ((List Int) × Int × Int) :=
  M.bind (M.iter (m_nilometerkit_Mixed_b0 s_bytes n) (s_used, s_mix, 0, [])) fun (l2, l3, s4, s5) =>
  M.pure (l3, s4, s5)
theorem nilometerkit_Mixed_ok {R : List Chunk} {b_s : Nat} {C_s_bytes : Cells} {v_s_bytes : Value} (s_bytes : List UInt8) (s_used : Int) (s_mix : Int) (n : Int) (hC_s_bytes : Reads R C_s_bytes) (hs_s_bytes : Sl C_s_bytes v_s_bytes s_bytes) {r : ((List Int) × Int × Int)} (hM : (m_nilometerkit_Mixed s_bytes s_used s_mix n).Ends r) (w : World) (H : St w w [cBlk b_s [v_s_bytes, I s_used, I s_mix] 158] R) : Ret Try.prog 46 #[Pz b_s, I n] w fun v w' => ∃ (y0 : List Int) (y1 : Int) (y2 : Int) (u0 : Value), (y0, y1, y2) = r ∧ v = u0 ∧ St w w' [cOwn (α := Int) 3 u0 y0, cBlk b_s [v_s_bytes, I y1, I y2] 158] R := by
 refine ret_of_W Try.func46 rfl rfl rfl ?_
 refine sQ rfl <| sA (.slice none 0 0) rfl <| s_nil <| sQ rfl <| sA (.slice none 0 0) rfl <| s_nil <| W.seq <| sQ rfl <| sA (I 0) rfl ?_
 refine s_nil <| W.block ?_
 replace H : St w w [cOwn (α := Int) 3 (.slice none 0 0) ([]), cBlk b_s [v_s_bytes, I s_used, I s_mix] 158] R := H.nilOwn (α := Int) 3
 obtain ⟨ex1z, hi2z, hk3z⟩ := M.e_bind hM
 obtain ⟨m0_, hi2z⟩ := M.e_iter hi2z
 refine W.loop (fun m σ W => ∃ (s2 : Int) (s3 : Int) (i : Nat) (l : List Int) (v_l : Value) (ρ : Env), σ = upds ρ [(0, Pz b_s), (1, I n), (5, v_l), (6, I (i : Int))] ∧ M.iterN (m_nilometerkit_Mixed_b0 s_bytes n) m (s2, s3, i, l) = some ex1z ∧ St w W [cOwn (α := Int) 3 v_l l, cBlk b_s [v_s_bytes, I s2, I s3] 158] R) ?_ ?_
 ·exact ⟨_, s_used, s_mix, 0, [], (.slice none 0 0), _, upds_of _ _ ⟨rfl, rfl, rfl, rfl, trivial⟩, hi2z, H⟩
 rintro m6z σ w4z ⟨s2, s3, i, l, v_l, ρ, rfl, hI5z, H⟩
 obtain ⟨m7z, lt8z, x9z, hM, hN10z⟩ := M.e_iterN hI5z
 simp only [m_nilometerkit_Mixed_b0] at hM
 clear hI5z
 refine W.seq <| sQ rfl <| sM (I (i : Int)) rfl <| sM (I n) rfl <| sC (i : Int) n (decide ((i : Int) < n)) rfl rfl rfl <| s_nil ?_
 refine W.cond (decide ((i : Int) < n)) rfl (fun c11z => ?_) (fun c11z => ?_)
 ·replace hM := M.e_t hM c11z
  simp only [qz1, qz2, qz3, qz4, qz5, qz6, ne_eq, qz7] at c11z
  refine W.skip <| W.seq <| W.block <| sQ rfl <| sM (Pz b_s) rfl <| sM (I (i : Int)) rfl ?_
  obtain ⟨sd12z, hM⟩ := M.e_gd hM
  refine sR (i : Int) 1 ((i : Int) + 1) rfl rfl rfl (by omega) ?_
  obtain ⟨r14z, hx13z, hM⟩ := M.e_bind hM
  refine s_call cf44 [Pz b_s, I ((i : Int) + 1)] rfl (nilometerkit_Stream_Next_ok s_bytes s2 s3 ((i : Int) + 1) (hC_s_bytes.app _) hs_s_bytes hx13z _ (St.give (L := [cBlk b_s [v_s_bytes, I s2, I s3] 158, cOwn (α := Int) 3 v_l l]) (A := [cBlk b_s [v_s_bytes, I s2, I s3] 158]) (T := [cOwn (α := Int) 3 v_l l]) (H.pick [1, 0] (by decide) rfl) rfl)) ?_
  rintro vq w15z ⟨r2, q1, q2, hr16z, hvq, H2_⟩
  subst hr16z
  subst vq
  try dsimp only at hM
  replace H : St w w15z [cBlk b_s [v_s_bytes, I q1, I q2] 158, cOwn (α := Int) 3 v_l l] R := H.pick [1, 0] (by decide) rfl |>.back H2_ rfl
  clear H2_
  refine sA (I r2) rfl <| s_nil <| sQ rfl <| sM v_l rfl <| sM (I (i : Int)) rfl ?_
  refine t_bs (α := Int) T34 [I (i : Int)] [(i : Int)] H rfl (.cons rfl (Flat.rep_enc _ (i : Int)) <| .nil) rfl rfl rfl ?_
  intro v17z w18z H
  obtain ⟨sd19z, hM⟩ := M.e_gd hM
  refine t_app (α := Int) (k := 2) (l := l) (l2 := [(i : Int)]) (l' := l ++ ([(i : Int)])) (vy := v17z) T34 rfl H rfl rfl rfl (ownSl (H.get (k := 0) rfl)) (ownLe _ (H.get (k := 0) rfl)) (rfl) (by first | omega | (simp only [List.length_nil] at *; omega)) ?_
  intro v20z w21z H
  replace H : St w w21z [cOwn (α := Int) 3 v17z ([(i : Int)]), cBlk b_s [v_s_bytes, I q1, I q2] 158, cOwn (α := Int) 3 v20z (l ++ ([(i : Int)]))] R := H
  refine sA v20z rfl <| s_nil ?_
  refine W.drawT (fun W => St w W [cOwn (α := Int) 3 v17z ([(i : Int)]), cBlk b_s [v_s_bytes, I q1, I q2] 158] R) (.q 0 (.q 1 (.q 2 (.q 3 (.q 4 (.q 5 (.q 8 (.q 9 (.l2 6 (.l2 7 (.l 10 (.l 11 (.l 12 (.l 13 (.l 14 (.l 15 .nil)))))) 10 (.l2 7 (.l 11 (.l 12 (.l 13 (.l 14 (.l 15 .nil))))) 11 (.l 7 (.l 12 (.l 13 (.l 14 (.l 15 .nil))))))) 10 (.l2 6 (.l2 7 (.l 11 (.l 12 (.l 13 (.l 14 (.l 15 .nil))))) 11 (.l 7 (.l 12 (.l 13 (.l 14 (.l 15 .nil)))))) 11 (.l 6 (.l 7 (.l 12 (.l 13 (.l 14 (.l 15 .nil)))))))))))))))) mixed (by decide +kernel) rfl ?_
  intro w22z hx_
  replace H : St w w22z [cOwn (α := Int) 3 v17z ([(i : Int)]), cBlk b_s [v_s_bytes, I q1, I q2] 158, cOwn (α := Int) 3 v20z (l ++ ([(i : Int)]))] R := H.ext hx_
  clear hx_
  refine ⟨(H.pick [0, 1] (by decide) rfl), ?_⟩
  refine t_q rfl (fun w' H => x_mv (v := v20z) rfl) ?_
  refine t_q rfl (fun w' H => x_mv (v := I (i : Int)) rfl) ?_
  refine t_q rfl (fun w' H => x_mv (v := v20z) rfl) ?_
  refine t_q rfl (fun w' H => x_mv (v := I r2) rfl) ?_
  refine t_q rfl (fun w' H => x_mv (v := v20z) rfl) ?_
  refine t_q rfl (fun w' H => x_mv (v := I r2) rfl) ?_
  refine t_q rfl (fun w' H => x_mv (v := v20z) rfl) ?_
  refine t_q rfl (fun w' H => x_mv (v := I (i : Int)) rfl) ?_
  obtain ⟨sd23z, hM⟩ := M.e_gd hM
  obtain ⟨sd24z, hM⟩ := M.e_gd hM
  obtain ⟨sd26z, hM⟩ := M.e_gd hM
  refine t_l2 rfl rfl ?_ ?_
  ·skip
   refine s_val (x_ix (a := v20z) (b := I r2) (v := vat v20z 1 (Int.toNat r2)) rfl rfl (Sl.ix (α := Int) T34.und T34.size (ownSl (H.get (k := 2) rfl)) (by omega) (by omega))) ?_
   refine s_nil ⟨(H.pick [0, 1] (by decide) rfl), ?_⟩
   refine t_l2 rfl rfl ?_ ?_
   ·skip
    refine s_val (x_ld (p := vat v20z 1 (Int.toNat r2)) (v := I ((l ++ ([(i : Int)])).getD (Int.toNat r2) 0)) rfl (ld_sc Sc3 (At.mono (Int_at (ownSl (H.get (k := 2) rfl)) (i := r2) (by omega) (by omega)) (ownLe _ (H.get (k := 2) rfl))))) ?_
    refine s_nil ⟨(H.pick [0, 1] (by decide) rfl), ?_⟩
    refine t_l rfl ?_
    refine s_val (x_ix (a := v20z) (b := I (i : Int)) (v := vat v20z 1 (Int.toNat (i : Int))) rfl rfl (Sl.ix (α := Int) T34.und T34.size (ownSl (H.get (k := 2) rfl)) (by omega) (by omega))) ?_
    refine s_nil ⟨(H.pick [0, 1] (by decide) rfl), ?_⟩
    refine t_l rfl ?_
    refine s_val (x_ld (p := vat v20z 1 (Int.toNat (i : Int))) (v := I ((l ++ ([(i : Int)])).getD i 0)) rfl (ld_sc Sc3 (At.mono (Int_at (ownSl (H.get (k := 2) rfl)) (i := (i : Int)) (by omega) (by omega)) (ownLe _ (H.get (k := 2) rfl))))) ?_
    refine s_nil ⟨(H.pick [0, 1] (by decide) rfl), ?_⟩
    refine t_l rfl ?_
    refine s_val (x_ix (a := v20z) (b := I (i : Int)) (v := vat v20z 1 (Int.toNat (i : Int))) rfl rfl (Sl.ix (α := Int) T34.und T34.size (ownSl (H.get (k := 2) rfl)) (by omega) (by omega))) ?_
    refine s_nil ⟨(H.pick [0, 1] (by decide) rfl), ?_⟩
    refine t_l rfl ?_
    refine t_ost (k := 2) (i := (i : Int)) (l := l ++ ([(i : Int)])) (l' := (l ++ ([(i : Int)])).set i ((l ++ ([(i : Int)])).getD (Int.toNat r2) 0 : Int)) (val := I ((l ++ ([(i : Int)])).getD (Int.toNat r2) 0)) (L' := [cOwn (α := Int) 3 v17z ([(i : Int)]), cBlk b_s [v_s_bytes, I q1, I q2] 158, cOwn (α := Int) 3 v20z ((l ++ ([(i : Int)])).set i ((l ++ ([(i : Int)])).getD (Int.toNat r2) 0 : Int))]) H rfl Sz3 (by omega) (by omega) ((l ++ ([(i : Int)])).getD (Int.toNat r2) 0 : Int) rfl rfl rfl rfl rfl ?_
    intro w28z H
    refine s_nil ⟨(H.pick [0, 1] (by decide) rfl), ?_⟩
    refine t_l rfl ?_
    refine s_val (x_ix (a := v20z) (b := I r2) (v := vat v20z 1 (Int.toNat r2)) rfl rfl (Sl.ix (α := Int) T34.und T34.size (ownSl (H.get (k := 2) rfl)) (by omega) (by omega))) ?_
    refine s_nil ⟨(H.pick [0, 1] (by decide) rfl), ?_⟩
    refine t_l rfl ?_
    refine t_ost (k := 2) (i := r2) (l := (l ++ ([(i : Int)])).set i ((l ++ ([(i : Int)])).getD (Int.toNat r2) 0 : Int)) (l' := ((l ++ ([(i : Int)])).set i ((l ++ ([(i : Int)])).getD (Int.toNat r2) 0 : Int)).set (Int.toNat r2) ((l ++ ([(i : Int)])).getD i 0 : Int)) (val := I ((l ++ ([(i : Int)])).getD i 0)) (L' := [cOwn (α := Int) 3 v17z ([(i : Int)]), cBlk b_s [v_s_bytes, I q1, I q2] 158, cOwn (α := Int) 3 v20z (((l ++ ([(i : Int)])).set i ((l ++ ([(i : Int)])).getD (Int.toNat r2) 0 : Int)).set (Int.toNat r2) ((l ++ ([(i : Int)])).getD i 0 : Int))]) H rfl Sz3 (by omega) (by omega) ((l ++ ([(i : Int)])).getD i 0 : Int) rfl rfl rfl rfl rfl ?_
    intro w29z H
    refine s_nil ⟨(H.pick [0, 1] (by decide) rfl), ?_⟩
    refine t_nil ?_
    refine W.region rfl <| sM (I (i : Int)) rfl <| sR (i : Int) 1 ((i : Int) + 1) rfl rfl rfl (by omega) <| sA (I ((i : Int) + 1)) rfl <| s_nil ?_
    exact ⟨m7z, lt8z, q1, q2, i + 1, ((l ++ ([(i : Int)])).set i ((l ++ ([(i : Int)])).getD (Int.toNat r2) 0 : Int)).set (Int.toNat r2) ((l ++ ([(i : Int)])).getD i 0 : Int), v20z, _, upds_of _ _ ⟨rfl, rfl, rfl, rfl, trivial⟩, M.e_inl hM hN10z, (H.pick [2, 1] (by decide) rfl)⟩
   skip
   refine s_val (x_ix (a := v20z) (b := I (i : Int)) (v := vat v20z 1 (Int.toNat (i : Int))) rfl rfl (Sl.ix (α := Int) T34.und T34.size (ownSl (H.get (k := 2) rfl)) (by omega) (by omega))) ?_
   refine s_nil ⟨(H.pick [0, 1] (by decide) rfl), ?_⟩
   refine t_l2 rfl rfl ?_ ?_
   ·skip
    refine s_val (x_ld (p := vat v20z 1 (Int.toNat r2)) (v := I ((l ++ ([(i : Int)])).getD (Int.toNat r2) 0)) rfl (ld_sc Sc3 (At.mono (Int_at (ownSl (H.get (k := 2) rfl)) (i := r2) (by omega) (by omega)) (ownLe _ (H.get (k := 2) rfl))))) ?_
    refine s_nil ⟨(H.pick [0, 1] (by decide) rfl), ?_⟩
    refine t_l rfl ?_
    refine s_val (x_ld (p := vat v20z 1 (Int.toNat (i : Int))) (v := I ((l ++ ([(i : Int)])).getD i 0)) rfl (ld_sc Sc3 (At.mono (Int_at (ownSl (H.get (k := 2) rfl)) (i := (i : Int)) (by omega) (by omega)) (ownLe _ (H.get (k := 2) rfl))))) ?_
    refine s_nil ⟨(H.pick [0, 1] (by decide) rfl), ?_⟩
    refine t_l rfl ?_
    refine s_val (x_ix (a := v20z) (b := I (i : Int)) (v := vat v20z 1 (Int.toNat (i : Int))) rfl rfl (Sl.ix (α := Int) T34.und T34.size (ownSl (H.get (k := 2) rfl)) (by omega) (by omega))) ?_
    refine s_nil ⟨(H.pick [0, 1] (by decide) rfl), ?_⟩
    refine t_l rfl ?_
    refine t_ost (k := 2) (i := (i : Int)) (l := l ++ ([(i : Int)])) (l' := (l ++ ([(i : Int)])).set i ((l ++ ([(i : Int)])).getD (Int.toNat r2) 0 : Int)) (val := I ((l ++ ([(i : Int)])).getD (Int.toNat r2) 0)) (L' := [cOwn (α := Int) 3 v17z ([(i : Int)]), cBlk b_s [v_s_bytes, I q1, I q2] 158, cOwn (α := Int) 3 v20z ((l ++ ([(i : Int)])).set i ((l ++ ([(i : Int)])).getD (Int.toNat r2) 0 : Int))]) H rfl Sz3 (by omega) (by omega) ((l ++ ([(i : Int)])).getD (Int.toNat r2) 0 : Int) rfl rfl rfl rfl rfl ?_
    intro w30z H
    refine s_nil ⟨(H.pick [0, 1] (by decide) rfl), ?_⟩
    refine t_l rfl ?_
    refine s_val (x_ix (a := v20z) (b := I r2) (v := vat v20z 1 (Int.toNat r2)) rfl rfl (Sl.ix (α := Int) T34.und T34.size (ownSl (H.get (k := 2) rfl)) (by omega) (by omega))) ?_
    refine s_nil ⟨(H.pick [0, 1] (by decide) rfl), ?_⟩
    refine t_l rfl ?_
    refine t_ost (k := 2) (i := r2) (l := (l ++ ([(i : Int)])).set i ((l ++ ([(i : Int)])).getD (Int.toNat r2) 0 : Int)) (l' := ((l ++ ([(i : Int)])).set i ((l ++ ([(i : Int)])).getD (Int.toNat r2) 0 : Int)).set (Int.toNat r2) ((l ++ ([(i : Int)])).getD i 0 : Int)) (val := I ((l ++ ([(i : Int)])).getD i 0)) (L' := [cOwn (α := Int) 3 v17z ([(i : Int)]), cBlk b_s [v_s_bytes, I q1, I q2] 158, cOwn (α := Int) 3 v20z (((l ++ ([(i : Int)])).set i ((l ++ ([(i : Int)])).getD (Int.toNat r2) 0 : Int)).set (Int.toNat r2) ((l ++ ([(i : Int)])).getD i 0 : Int))]) H rfl Sz3 (by omega) (by omega) ((l ++ ([(i : Int)])).getD i 0 : Int) rfl rfl rfl rfl rfl ?_
    intro w31z H
    refine s_nil ⟨(H.pick [0, 1] (by decide) rfl), ?_⟩
    refine t_nil ?_
    refine W.region rfl <| sM (I (i : Int)) rfl <| sR (i : Int) 1 ((i : Int) + 1) rfl rfl rfl (by omega) <| sA (I ((i : Int) + 1)) rfl <| s_nil ?_
    exact ⟨m7z, lt8z, q1, q2, i + 1, ((l ++ ([(i : Int)])).set i ((l ++ ([(i : Int)])).getD (Int.toNat r2) 0 : Int)).set (Int.toNat r2) ((l ++ ([(i : Int)])).getD i 0 : Int), v20z, _, upds_of _ _ ⟨rfl, rfl, rfl, rfl, trivial⟩, M.e_inl hM hN10z, (H.pick [2, 1] (by decide) rfl)⟩
   skip
   refine s_val (x_ld (p := vat v20z 1 (Int.toNat (i : Int))) (v := I ((l ++ ([(i : Int)])).getD i 0)) rfl (ld_sc Sc3 (At.mono (Int_at (ownSl (H.get (k := 2) rfl)) (i := (i : Int)) (by omega) (by omega)) (ownLe _ (H.get (k := 2) rfl))))) ?_
   refine s_nil ⟨(H.pick [0, 1] (by decide) rfl), ?_⟩
   refine t_l rfl ?_
   refine s_val (x_ld (p := vat v20z 1 (Int.toNat r2)) (v := I ((l ++ ([(i : Int)])).getD (Int.toNat r2) 0)) rfl (ld_sc Sc3 (At.mono (Int_at (ownSl (H.get (k := 2) rfl)) (i := r2) (by omega) (by omega)) (ownLe _ (H.get (k := 2) rfl))))) ?_
   refine s_nil ⟨(H.pick [0, 1] (by decide) rfl), ?_⟩
   refine t_l rfl ?_
   refine s_val (x_ix (a := v20z) (b := I (i : Int)) (v := vat v20z 1 (Int.toNat (i : Int))) rfl rfl (Sl.ix (α := Int) T34.und T34.size (ownSl (H.get (k := 2) rfl)) (by omega) (by omega))) ?_
   refine s_nil ⟨(H.pick [0, 1] (by decide) rfl), ?_⟩
   refine t_l rfl ?_
   refine t_ost (k := 2) (i := (i : Int)) (l := l ++ ([(i : Int)])) (l' := (l ++ ([(i : Int)])).set i ((l ++ ([(i : Int)])).getD (Int.toNat r2) 0 : Int)) (val := I ((l ++ ([(i : Int)])).getD (Int.toNat r2) 0)) (L' := [cOwn (α := Int) 3 v17z ([(i : Int)]), cBlk b_s [v_s_bytes, I q1, I q2] 158, cOwn (α := Int) 3 v20z ((l ++ ([(i : Int)])).set i ((l ++ ([(i : Int)])).getD (Int.toNat r2) 0 : Int))]) H rfl Sz3 (by omega) (by omega) ((l ++ ([(i : Int)])).getD (Int.toNat r2) 0 : Int) rfl rfl rfl rfl rfl ?_
   intro w32z H
   refine s_nil ⟨(H.pick [0, 1] (by decide) rfl), ?_⟩
   refine t_l rfl ?_
   refine s_val (x_ix (a := v20z) (b := I r2) (v := vat v20z 1 (Int.toNat r2)) rfl rfl (Sl.ix (α := Int) T34.und T34.size (ownSl (H.get (k := 2) rfl)) (by omega) (by omega))) ?_
   refine s_nil ⟨(H.pick [0, 1] (by decide) rfl), ?_⟩
   refine t_l rfl ?_
   refine t_ost (k := 2) (i := r2) (l := (l ++ ([(i : Int)])).set i ((l ++ ([(i : Int)])).getD (Int.toNat r2) 0 : Int)) (l' := ((l ++ ([(i : Int)])).set i ((l ++ ([(i : Int)])).getD (Int.toNat r2) 0 : Int)).set (Int.toNat r2) ((l ++ ([(i : Int)])).getD i 0 : Int)) (val := I ((l ++ ([(i : Int)])).getD i 0)) (L' := [cOwn (α := Int) 3 v17z ([(i : Int)]), cBlk b_s [v_s_bytes, I q1, I q2] 158, cOwn (α := Int) 3 v20z (((l ++ ([(i : Int)])).set i ((l ++ ([(i : Int)])).getD (Int.toNat r2) 0 : Int)).set (Int.toNat r2) ((l ++ ([(i : Int)])).getD i 0 : Int))]) H rfl Sz3 (by omega) (by omega) ((l ++ ([(i : Int)])).getD i 0 : Int) rfl rfl rfl rfl rfl ?_
   intro w33z H
   refine s_nil ⟨(H.pick [0, 1] (by decide) rfl), ?_⟩
   refine t_nil ?_
   refine W.region rfl <| sM (I (i : Int)) rfl <| sR (i : Int) 1 ((i : Int) + 1) rfl rfl rfl (by omega) <| sA (I ((i : Int) + 1)) rfl <| s_nil ?_
   exact ⟨m7z, lt8z, q1, q2, i + 1, ((l ++ ([(i : Int)])).set i ((l ++ ([(i : Int)])).getD (Int.toNat r2) 0 : Int)).set (Int.toNat r2) ((l ++ ([(i : Int)])).getD i 0 : Int), v20z, _, upds_of _ _ ⟨rfl, rfl, rfl, rfl, trivial⟩, M.e_inl hM hN10z, (H.pick [2, 1] (by decide) rfl)⟩
  skip
  refine s_val (x_ix (a := v20z) (b := I (i : Int)) (v := vat v20z 1 (Int.toNat (i : Int))) rfl rfl (Sl.ix (α := Int) T34.und T34.size (ownSl (H.get (k := 2) rfl)) (by omega) (by omega))) ?_
  refine s_nil ⟨(H.pick [0, 1] (by decide) rfl), ?_⟩
  refine t_l2 rfl rfl ?_ ?_
  ·skip
   refine s_val (x_ix (a := v20z) (b := I r2) (v := vat v20z 1 (Int.toNat r2)) rfl rfl (Sl.ix (α := Int) T34.und T34.size (ownSl (H.get (k := 2) rfl)) (by omega) (by omega))) ?_
   refine s_nil ⟨(H.pick [0, 1] (by decide) rfl), ?_⟩
   refine t_l2 rfl rfl ?_ ?_
   ·skip
    refine s_val (x_ld (p := vat v20z 1 (Int.toNat r2)) (v := I ((l ++ ([(i : Int)])).getD (Int.toNat r2) 0)) rfl (ld_sc Sc3 (At.mono (Int_at (ownSl (H.get (k := 2) rfl)) (i := r2) (by omega) (by omega)) (ownLe _ (H.get (k := 2) rfl))))) ?_
    refine s_nil ⟨(H.pick [0, 1] (by decide) rfl), ?_⟩
    refine t_l rfl ?_
    refine s_val (x_ld (p := vat v20z 1 (Int.toNat (i : Int))) (v := I ((l ++ ([(i : Int)])).getD i 0)) rfl (ld_sc Sc3 (At.mono (Int_at (ownSl (H.get (k := 2) rfl)) (i := (i : Int)) (by omega) (by omega)) (ownLe _ (H.get (k := 2) rfl))))) ?_
    refine s_nil ⟨(H.pick [0, 1] (by decide) rfl), ?_⟩
    refine t_l rfl ?_
    refine s_val (x_ix (a := v20z) (b := I (i : Int)) (v := vat v20z 1 (Int.toNat (i : Int))) rfl rfl (Sl.ix (α := Int) T34.und T34.size (ownSl (H.get (k := 2) rfl)) (by omega) (by omega))) ?_
    refine s_nil ⟨(H.pick [0, 1] (by decide) rfl), ?_⟩
    refine t_l rfl ?_
    refine t_ost (k := 2) (i := (i : Int)) (l := l ++ ([(i : Int)])) (l' := (l ++ ([(i : Int)])).set i ((l ++ ([(i : Int)])).getD (Int.toNat r2) 0 : Int)) (val := I ((l ++ ([(i : Int)])).getD (Int.toNat r2) 0)) (L' := [cOwn (α := Int) 3 v17z ([(i : Int)]), cBlk b_s [v_s_bytes, I q1, I q2] 158, cOwn (α := Int) 3 v20z ((l ++ ([(i : Int)])).set i ((l ++ ([(i : Int)])).getD (Int.toNat r2) 0 : Int))]) H rfl Sz3 (by omega) (by omega) ((l ++ ([(i : Int)])).getD (Int.toNat r2) 0 : Int) rfl rfl rfl rfl rfl ?_
    intro w34z H
    refine s_nil ⟨(H.pick [0, 1] (by decide) rfl), ?_⟩
    refine t_l rfl ?_
    refine s_val (x_ix (a := v20z) (b := I r2) (v := vat v20z 1 (Int.toNat r2)) rfl rfl (Sl.ix (α := Int) T34.und T34.size (ownSl (H.get (k := 2) rfl)) (by omega) (by omega))) ?_
    refine s_nil ⟨(H.pick [0, 1] (by decide) rfl), ?_⟩
    refine t_l rfl ?_
    refine t_ost (k := 2) (i := r2) (l := (l ++ ([(i : Int)])).set i ((l ++ ([(i : Int)])).getD (Int.toNat r2) 0 : Int)) (l' := ((l ++ ([(i : Int)])).set i ((l ++ ([(i : Int)])).getD (Int.toNat r2) 0 : Int)).set (Int.toNat r2) ((l ++ ([(i : Int)])).getD i 0 : Int)) (val := I ((l ++ ([(i : Int)])).getD i 0)) (L' := [cOwn (α := Int) 3 v17z ([(i : Int)]), cBlk b_s [v_s_bytes, I q1, I q2] 158, cOwn (α := Int) 3 v20z (((l ++ ([(i : Int)])).set i ((l ++ ([(i : Int)])).getD (Int.toNat r2) 0 : Int)).set (Int.toNat r2) ((l ++ ([(i : Int)])).getD i 0 : Int))]) H rfl Sz3 (by omega) (by omega) ((l ++ ([(i : Int)])).getD i 0 : Int) rfl rfl rfl rfl rfl ?_
    intro w35z H
    refine s_nil ⟨(H.pick [0, 1] (by decide) rfl), ?_⟩
    refine t_nil ?_
    refine W.region rfl <| sM (I (i : Int)) rfl <| sR (i : Int) 1 ((i : Int) + 1) rfl rfl rfl (by omega) <| sA (I ((i : Int) + 1)) rfl <| s_nil ?_
    exact ⟨m7z, lt8z, q1, q2, i + 1, ((l ++ ([(i : Int)])).set i ((l ++ ([(i : Int)])).getD (Int.toNat r2) 0 : Int)).set (Int.toNat r2) ((l ++ ([(i : Int)])).getD i 0 : Int), v20z, _, upds_of _ _ ⟨rfl, rfl, rfl, rfl, trivial⟩, M.e_inl hM hN10z, (H.pick [2, 1] (by decide) rfl)⟩
   skip
   refine s_val (x_ld (p := vat v20z 1 (Int.toNat (i : Int))) (v := I ((l ++ ([(i : Int)])).getD i 0)) rfl (ld_sc Sc3 (At.mono (Int_at (ownSl (H.get (k := 2) rfl)) (i := (i : Int)) (by omega) (by omega)) (ownLe _ (H.get (k := 2) rfl))))) ?_
   refine s_nil ⟨(H.pick [0, 1] (by decide) rfl), ?_⟩
   refine t_l rfl ?_
   refine s_val (x_ld (p := vat v20z 1 (Int.toNat r2)) (v := I ((l ++ ([(i : Int)])).getD (Int.toNat r2) 0)) rfl (ld_sc Sc3 (At.mono (Int_at (ownSl (H.get (k := 2) rfl)) (i := r2) (by omega) (by omega)) (ownLe _ (H.get (k := 2) rfl))))) ?_
   refine s_nil ⟨(H.pick [0, 1] (by decide) rfl), ?_⟩
   refine t_l rfl ?_
   refine s_val (x_ix (a := v20z) (b := I (i : Int)) (v := vat v20z 1 (Int.toNat (i : Int))) rfl rfl (Sl.ix (α := Int) T34.und T34.size (ownSl (H.get (k := 2) rfl)) (by omega) (by omega))) ?_
   refine s_nil ⟨(H.pick [0, 1] (by decide) rfl), ?_⟩
   refine t_l rfl ?_
   refine t_ost (k := 2) (i := (i : Int)) (l := l ++ ([(i : Int)])) (l' := (l ++ ([(i : Int)])).set i ((l ++ ([(i : Int)])).getD (Int.toNat r2) 0 : Int)) (val := I ((l ++ ([(i : Int)])).getD (Int.toNat r2) 0)) (L' := [cOwn (α := Int) 3 v17z ([(i : Int)]), cBlk b_s [v_s_bytes, I q1, I q2] 158, cOwn (α := Int) 3 v20z ((l ++ ([(i : Int)])).set i ((l ++ ([(i : Int)])).getD (Int.toNat r2) 0 : Int))]) H rfl Sz3 (by omega) (by omega) ((l ++ ([(i : Int)])).getD (Int.toNat r2) 0 : Int) rfl rfl rfl rfl rfl ?_
   intro w36z H
   refine s_nil ⟨(H.pick [0, 1] (by decide) rfl), ?_⟩
   refine t_l rfl ?_
   refine s_val (x_ix (a := v20z) (b := I r2) (v := vat v20z 1 (Int.toNat r2)) rfl rfl (Sl.ix (α := Int) T34.und T34.size (ownSl (H.get (k := 2) rfl)) (by omega) (by omega))) ?_
   refine s_nil ⟨(H.pick [0, 1] (by decide) rfl), ?_⟩
   refine t_l rfl ?_
   refine t_ost (k := 2) (i := r2) (l := (l ++ ([(i : Int)])).set i ((l ++ ([(i : Int)])).getD (Int.toNat r2) 0 : Int)) (l' := ((l ++ ([(i : Int)])).set i ((l ++ ([(i : Int)])).getD (Int.toNat r2) 0 : Int)).set (Int.toNat r2) ((l ++ ([(i : Int)])).getD i 0 : Int)) (val := I ((l ++ ([(i : Int)])).getD i 0)) (L' := [cOwn (α := Int) 3 v17z ([(i : Int)]), cBlk b_s [v_s_bytes, I q1, I q2] 158, cOwn (α := Int) 3 v20z (((l ++ ([(i : Int)])).set i ((l ++ ([(i : Int)])).getD (Int.toNat r2) 0 : Int)).set (Int.toNat r2) ((l ++ ([(i : Int)])).getD i 0 : Int))]) H rfl Sz3 (by omega) (by omega) ((l ++ ([(i : Int)])).getD i 0 : Int) rfl rfl rfl rfl rfl ?_
   intro w37z H
   refine s_nil ⟨(H.pick [0, 1] (by decide) rfl), ?_⟩
   refine t_nil ?_
   refine W.region rfl <| sM (I (i : Int)) rfl <| sR (i : Int) 1 ((i : Int) + 1) rfl rfl rfl (by omega) <| sA (I ((i : Int) + 1)) rfl <| s_nil ?_
   exact ⟨m7z, lt8z, q1, q2, i + 1, ((l ++ ([(i : Int)])).set i ((l ++ ([(i : Int)])).getD (Int.toNat r2) 0 : Int)).set (Int.toNat r2) ((l ++ ([(i : Int)])).getD i 0 : Int), v20z, _, upds_of _ _ ⟨rfl, rfl, rfl, rfl, trivial⟩, M.e_inl hM hN10z, (H.pick [2, 1] (by decide) rfl)⟩
  skip
  refine s_val (x_ld (p := vat v20z 1 (Int.toNat (i : Int))) (v := I ((l ++ ([(i : Int)])).getD i 0)) rfl (ld_sc Sc3 (At.mono (Int_at (ownSl (H.get (k := 2) rfl)) (i := (i : Int)) (by omega) (by omega)) (ownLe _ (H.get (k := 2) rfl))))) ?_
  refine s_nil ⟨(H.pick [0, 1] (by decide) rfl), ?_⟩
  refine t_l rfl ?_
  refine s_val (x_ix (a := v20z) (b := I r2) (v := vat v20z 1 (Int.toNat r2)) rfl rfl (Sl.ix (α := Int) T34.und T34.size (ownSl (H.get (k := 2) rfl)) (by omega) (by omega))) ?_
  refine s_nil ⟨(H.pick [0, 1] (by decide) rfl), ?_⟩
  refine t_l rfl ?_
  refine s_val (x_ld (p := vat v20z 1 (Int.toNat r2)) (v := I ((l ++ ([(i : Int)])).getD (Int.toNat r2) 0)) rfl (ld_sc Sc3 (At.mono (Int_at (ownSl (H.get (k := 2) rfl)) (i := r2) (by omega) (by omega)) (ownLe _ (H.get (k := 2) rfl))))) ?_
  refine s_nil ⟨(H.pick [0, 1] (by decide) rfl), ?_⟩
  refine t_l rfl ?_
  refine s_val (x_ix (a := v20z) (b := I (i : Int)) (v := vat v20z 1 (Int.toNat (i : Int))) rfl rfl (Sl.ix (α := Int) T34.und T34.size (ownSl (H.get (k := 2) rfl)) (by omega) (by omega))) ?_
  refine s_nil ⟨(H.pick [0, 1] (by decide) rfl), ?_⟩
  refine t_l rfl ?_
  refine t_ost (k := 2) (i := (i : Int)) (l := l ++ ([(i : Int)])) (l' := (l ++ ([(i : Int)])).set i ((l ++ ([(i : Int)])).getD (Int.toNat r2) 0 : Int)) (val := I ((l ++ ([(i : Int)])).getD (Int.toNat r2) 0)) (L' := [cOwn (α := Int) 3 v17z ([(i : Int)]), cBlk b_s [v_s_bytes, I q1, I q2] 158, cOwn (α := Int) 3 v20z ((l ++ ([(i : Int)])).set i ((l ++ ([(i : Int)])).getD (Int.toNat r2) 0 : Int))]) H rfl Sz3 (by omega) (by omega) ((l ++ ([(i : Int)])).getD (Int.toNat r2) 0 : Int) rfl rfl rfl rfl rfl ?_
  intro w38z H
  refine s_nil ⟨(H.pick [0, 1] (by decide) rfl), ?_⟩
  refine t_l rfl ?_
  refine s_val (x_ix (a := v20z) (b := I r2) (v := vat v20z 1 (Int.toNat r2)) rfl rfl (Sl.ix (α := Int) T34.und T34.size (ownSl (H.get (k := 2) rfl)) (by omega) (by omega))) ?_
  refine s_nil ⟨(H.pick [0, 1] (by decide) rfl), ?_⟩
  refine t_l rfl ?_
  refine t_ost (k := 2) (i := r2) (l := (l ++ ([(i : Int)])).set i ((l ++ ([(i : Int)])).getD (Int.toNat r2) 0 : Int)) (l' := ((l ++ ([(i : Int)])).set i ((l ++ ([(i : Int)])).getD (Int.toNat r2) 0 : Int)).set (Int.toNat r2) ((l ++ ([(i : Int)])).getD i 0 : Int)) (val := I ((l ++ ([(i : Int)])).getD i 0)) (L' := [cOwn (α := Int) 3 v17z ([(i : Int)]), cBlk b_s [v_s_bytes, I q1, I q2] 158, cOwn (α := Int) 3 v20z (((l ++ ([(i : Int)])).set i ((l ++ ([(i : Int)])).getD (Int.toNat r2) 0 : Int)).set (Int.toNat r2) ((l ++ ([(i : Int)])).getD i 0 : Int))]) H rfl Sz3 (by omega) (by omega) ((l ++ ([(i : Int)])).getD i 0 : Int) rfl rfl rfl rfl rfl ?_
  intro w39z H
  refine s_nil ⟨(H.pick [0, 1] (by decide) rfl), ?_⟩
  refine t_nil ?_
  refine W.region rfl <| sM (I (i : Int)) rfl <| sR (i : Int) 1 ((i : Int) + 1) rfl rfl rfl (by omega) <| sA (I ((i : Int) + 1)) rfl <| s_nil ?_
  exact ⟨m7z, lt8z, q1, q2, i + 1, ((l ++ ([(i : Int)])).set i ((l ++ ([(i : Int)])).getD (Int.toNat r2) 0 : Int)).set (Int.toNat r2) ((l ++ ([(i : Int)])).getD i 0 : Int), v20z, _, upds_of _ _ ⟨rfl, rfl, rfl, rfl, trivial⟩, M.e_inl hM hN10z, (H.pick [2, 1] (by decide) rfl)⟩
 replace hM := M.e_f hM c11z
 simp only [qz1, qz2, qz3, qz4, qz5, qz6, ne_eq, qz7] at c11z
 refine W.exit ?_
 have hX40z := M.e_inr hM hN10z
 subst hX40z
 replace hM := hk3z
 try dsimp only at hM
 refine sQ rfl <| sM v_l rfl <| sA v_l rfl <| s_nil ?_
 refine W.ret ?_
 have hr_ := M.e_pure hM
 exact ⟨_, resE_tmp rfl, ⟨l, s2, s3, v_l, hr_, rfl, H⟩⟩

def m_nilometerkit_Stream_Within (s_bytes : List UInt8) (s_used : Int) (s_mix : Int) (lo : Int) (hi : Int) : M (Int × Int × Int) :=
  M.grd (decide ((-9223372036854775808 : Int) ≤ (hi - lo)) && decide ((hi - lo) ≤ (9223372036854775807 : Int))) <|
  M.grd (decide ((-9223372036854775808 : Int) ≤ ((hi - lo) + 1)) && decide (((hi - lo) + 1) ≤ (9223372036854775807 : Int))) <|
  M.bind (m_nilometerkit_Stream_Next s_bytes s_used s_mix ((hi - lo) + 1)) fun (r2, q1, q2) =>
  M.grd (decide ((-9223372036854775808 : Int) ≤ (lo + r2)) && decide ((lo + r2) ≤ (9223372036854775807 : Int))) <|
  M.pure ((lo + r2), q1, q2)
theorem nilometerkit_Stream_Within_ok {R : List Chunk} {b_s : Nat} {C_s_bytes : Cells} {v_s_bytes : Value} (s_bytes : List UInt8) (s_used : Int) (s_mix : Int) (lo : Int) (hi : Int) (hC_s_bytes : Reads R C_s_bytes) (hs_s_bytes : Sl C_s_bytes v_s_bytes s_bytes) {r : (Int × Int × Int)} (hM : (m_nilometerkit_Stream_Within s_bytes s_used s_mix lo hi).Ends r) (w : World) (H : St w w [cBlk b_s [v_s_bytes, I s_used, I s_mix] 158] R) : Ret Try.prog 43 #[Pz b_s, I lo, I hi] w fun v w' => ∃ (y0 : Int) (y1 : Int) (y2 : Int), (y0, y1, y2) = r ∧ v = I y0 ∧ St w w' [cBlk b_s [v_s_bytes, I y1, I y2] 158] R := by
 refine ret_of_W Try.func43 rfl rfl rfl ?_
 refine sQ rfl <| sA (I 0) rfl <| s_nil <| sQ rfl <| sM (I lo) rfl <| sM (Pz b_s) rfl <| sM (I hi) rfl <| sM (I lo) rfl ?_
 obtain ⟨sd1z, hM⟩ := M.e_gd hM
 refine sR hi lo (hi - lo) rfl rfl rfl (by omega) ?_
 obtain ⟨sd2z, hM⟩ := M.e_gd hM
 refine sR (hi - lo) 1 ((hi - lo) + 1) rfl rfl rfl (by omega) ?_
 obtain ⟨r4z, hx3z, hM⟩ := M.e_bind hM
 refine s_call cf44 [Pz b_s, I ((hi - lo) + 1)] rfl (nilometerkit_Stream_Next_ok s_bytes s_used s_mix ((hi - lo) + 1) (hC_s_bytes.app _) hs_s_bytes hx3z _ (St.give (T := []) H rfl)) ?_
 rintro vq w5z ⟨r2, q1, q2, hr6z, hvq, H2_⟩
 subst hr6z
 subst vq
 try dsimp only at hM
 replace H : St w w5z [cBlk b_s [v_s_bytes, I q1, I q2] 158] R := H.back H2_ rfl
 clear H2_
 obtain ⟨sd7z, hM⟩ := M.e_gd hM
 refine sR lo r2 (lo + r2) rfl rfl rfl (by omega) <| sA (I (lo + r2)) rfl <| s_nil ?_
 refine W.ret ?_
 have hr_ := M.e_pure hM
 exact ⟨_, resE_tmp rfl, ⟨(lo + r2), q1, q2, hr_, rfl, H⟩⟩

def m_nilometerlaw13_Made_b2 (s_bytes : List UInt8) (s8 : Nat) : (Int × Int × Int × (List Int)) → M ((Int × Int × Int × (List Int)) ⊕ (Int × Int × (List Int) × (List Int))) := fun (s2, s3, k, l) =>
  bif (((decide (0 ≤ k)) && (decide ((l.length : Int) < 5))) && (decide (2 < (s8 : Int)))) then (
  M.bind (m_nilometerkit_Stream_Next s_bytes s2 s3 3) fun (r5, q14, q24) =>
  bif r5 == 0 then (
  M.grd (decide ((l.length + ([(k : Int)]).length) * 8 ≤ 140737488355328)) <|
  M.grd (decide ((-9223372036854775808 : Int) ≤ (k - 1)) && decide ((k - 1) ≤ (9223372036854775807 : Int))) <|
  M.pure (.inl (q14, q24, k - 1, l ++ ([(k : Int)]))))
  else (
  M.grd (decide ((-9223372036854775808 : Int) ≤ (k - 1)) && decide ((k - 1) ≤ (9223372036854775807 : Int))) <|
  M.pure (.inl (q14, q24, k - 1, l))))
  else (
  M.pure (.inr (s2, s3, l, l)))
def m_nilometerlaw13_Made_b3 (s_bytes : List UInt8) (r2 : Int) : (Int × Int × Nat × (List Work)) → M ((Int × Int × Nat × (List Work)) ⊕ ((List Work) × (List Work) × Int × Int)) := fun (s6, s7, s8, l4) =>
  bif decide ((s8 : Int) < r2) then (
  M.bind (m_nilometerkit_Stream_Next s_bytes s6 s7 2000) fun (r3, q12, q22) =>
  M.bind (m_nilometerkit_Stream_Next s_bytes q12 q22 60) fun (r4, q13, q23) =>
  M.grd (decide ((-9223372036854775808 : Int) ≤ ((s8 : Int) - 1)) && decide (((s8 : Int) - 1) ≤ (9223372036854775807 : Int))) <|
  M.bind (M.iter (m_nilometerlaw13_Made_b2 s_bytes s8) (q13, q23, (s8 : Int) - 1, [])) fun (s4, s5, l2, l3) =>
  M.grd (decide ((l4.length + ([(⟨l3, (r3 : Int), (r4 : Int)⟩ : Work)]).length) * 40 ≤ 140737488355328)) <|
  M.grd (decide ((-9223372036854775808 : Int) ≤ ((s8 : Int) + 1)) && decide (((s8 : Int) + 1) ≤ (9223372036854775807 : Int))) <|
  M.pure (.inl (s4, s5, s8 + 1, l4 ++ ([(⟨l3, (r3 : Int), (r4 : Int)⟩ : Work)]))))
  else (
  M.pure (.inr (l4, l4, s6, s7)))
def m_nilometerlaw13_Made (s_bytes : List UInt8) (s_used : Int) (s_mix : Int) (most : Int) : M ((List Work) × Int × Int) :=
  M.bind (m_nilometerkit_Stream_Within s_bytes s_used s_mix 2 most) fun (r2, q1, q2) =>
  M.bind (M.iter (m_nilometerlaw13_Made_b3 s_bytes r2) (q1, q2, 0, [])) fun (l5, l6, s9, s10) =>
  M.pure (l6, s9, s10)
theorem nilometerlaw13_Made_ok {R : List Chunk} {b_s : Nat} {C_s_bytes : Cells} {v_s_bytes : Value} (s_bytes : List UInt8) (s_used : Int) (s_mix : Int) (most : Int) (hC_s_bytes : Reads R C_s_bytes) (hs_s_bytes : Sl C_s_bytes v_s_bytes s_bytes) {r : ((List Work) × Int × Int)} (hM : (m_nilometerlaw13_Made s_bytes s_used s_mix most).Ends r) (w : World) (H : St w w [cBlk b_s [v_s_bytes, I s_used, I s_mix] 158] R) : Ret Try.prog 41 #[Pz b_s, I most] w fun v w' => ∃ (y0 : List Work) (y1 : Int) (y2 : Int) (u0 : Value) (rr1 : List (Raw 2)) (Bs2 : Base), (y0, y1, y2) = r ∧ v = u0 ∧ St w w' [cOwn (α := Raw 2) 60 u0 rr1, cRo Bs2, cBlk b_s [v_s_bytes, I y1, I y2] 158] R ∧ RepR (α := Work) Bs2.cells rr1 y0 := by
 refine ret_of_W Try.func41 rfl rfl rfl ?_
 refine sQ rfl <| sA (.slice none 0 0) rfl <| s_nil <| sQ rfl <| sA (.slice none 0 0) rfl <| s_nil <| W.seq <| sQ rfl <| sM (Pz b_s) rfl ?_
 refine sM (I most) rfl ?_
 obtain ⟨r2z, hx1z, hM⟩ := M.e_bind hM
 refine s_call cf43 [Pz b_s, I 2, I most] rfl (nilometerkit_Stream_Within_ok s_bytes s_used s_mix 2 most (hC_s_bytes.app _) hs_s_bytes hx1z _ (St.give (T := []) H rfl)) ?_
 rintro vq w3z ⟨r2, q1, q2, hr4z, hvq, H2_⟩
 subst hr4z
 subst vq
 try dsimp only at hM
 replace H : St w w3z [cBlk b_s [v_s_bytes, I q1, I q2] 158] R := H.back H2_ rfl
 clear H2_
 refine sM (I 0) rfl <| s_nil <| W.block ?_
 obtain ⟨Bs_12, H⟩ := H.emptyE
 replace H : St w w3z [cOwn (α := Raw 2) 60 (.slice none 0 0) ([]), cRo Bs_12, cBlk b_s [v_s_bytes, I q1, I q2] 158] R := H.nilOwn (α := Raw 2) 60
 have hr5z : RepR (α := Work) (n := 2) Bs_12.cells [] [] := .nil
 obtain ⟨ex6z, hi7z, hk8z⟩ := M.e_bind hM
 obtain ⟨m0_, hi7z⟩ := M.e_iter hi7z
 refine W.loop (fun m σ W => ∃ (s6 : Int) (s7 : Int) (s8 : Nat) (l4 : List Work) (v_l4 : Value) (rw_l4 : List (Raw 2)) (B_l4 : Base) (ρ : Env), σ = upds ρ [(0, Pz b_s), (5, v_l4), (11, I r2), (12, I (s8 : Int))] ∧ M.iterN (m_nilometerlaw13_Made_b3 s_bytes r2) m (s6, s7, s8, l4) = some ex6z ∧ St w W [cOwn (α := Raw 2) 60 v_l4 rw_l4, cRo B_l4, cBlk b_s [v_s_bytes, I s6, I s7] 158] R ∧ RepR (α := Work) B_l4.cells rw_l4 l4) ?_ ?_
 ·exact ⟨_, q1, q2, 0, [], (.slice none 0 0), [], Bs_12, _, upds_of _ _ ⟨rfl, rfl, rfl, rfl, trivial⟩, hi7z, H, hr5z⟩
 rintro m11z σ w9z ⟨s6, s7, s8, l4, v_l4, rw_l4, B_l4, ρ, rfl, hI10z, H, hr_l4⟩
 obtain ⟨m12z, lt13z, x14z, hM, hN15z⟩ := M.e_iterN hI10z
 simp only [m_nilometerlaw13_Made_b3] at hM
 clear hI10z
 refine sQ rfl <| sC (s8 : Int) r2 (decide ((s8 : Int) < r2)) rfl rfl rfl <| s_nil <| W.seq ?_
 refine W.cond (decide ((s8 : Int) < r2)) rfl (fun c16z => ?_) (fun c16z => ?_)
 ·replace hM := M.e_t hM c16z
  simp only [qz1, qz2, qz3, qz4, qz5, qz6, ne_eq, qz7] at c16z
  refine W.skip <| W.seq <| W.block <| sQ rfl <| sM (I (s8 : Int)) rfl <| sA (I (s8 : Int)) rfl <| s_nil <| sQ rfl <| sM (Pz b_s) rfl ?_
  obtain ⟨r18z, hx17z, hM⟩ := M.e_bind hM
  refine s_call cf44 [Pz b_s, I 2000] rfl (nilometerkit_Stream_Next_ok s_bytes s6 s7 2000 (hC_s_bytes.app _) hs_s_bytes hx17z _ (St.give (L := [cBlk b_s [v_s_bytes, I s6, I s7] 158, cOwn (α := Raw 2) 60 v_l4 rw_l4, cRo B_l4]) (A := [cBlk b_s [v_s_bytes, I s6, I s7] 158]) (T := [cOwn (α := Raw 2) 60 v_l4 rw_l4, cRo B_l4]) (H.pick [2, 0, 1] (by decide) rfl) rfl)) ?_
  rintro vq w19z ⟨r3, q12, q22, hr20z, hvq, H2_⟩
  subst hr20z
  subst vq
  try dsimp only at hM
  replace H : St w w19z [cBlk b_s [v_s_bytes, I q12, I q22] 158, cOwn (α := Raw 2) 60 v_l4 rw_l4, cRo B_l4] R := H.pick [2, 0, 1] (by decide) rfl |>.back H2_ rfl
  clear H2_
  refine sM (Pz b_s) rfl ?_
  obtain ⟨r22z, hx21z, hM⟩ := M.e_bind hM
  refine s_call cf44 [Pz b_s, I 60] rfl (nilometerkit_Stream_Next_ok s_bytes q12 q22 60 (hC_s_bytes.app _) hs_s_bytes hx21z _ (St.give (T := [cOwn (α := Raw 2) 60 v_l4 rw_l4, cRo B_l4]) H rfl)) ?_
  rintro vq w23z ⟨r4, q13, q23, hr24z, hvq, H2_⟩
  subst hr24z
  subst vq
  try dsimp only at hM
  replace H : St w w23z [cBlk b_s [v_s_bytes, I q13, I q23] 158, cOwn (α := Raw 2) 60 v_l4 rw_l4, cRo B_l4] R := H.back H2_ rfl
  clear H2_
  refine s_val (x_bld (ps := [(1, I r3), (2, I r4)]) (zs := [.slice none 0 0, I 0, I 0]) (L' := [.slice none 0 0, I r3, I r4]) rfl Try.underlying60 Al60 rfl (Bd60 Try.underlying60) (.cons (cs := [I r3]) rfl rfl rfl rfl rfl <| .cons (cs := [I r4]) rfl rfl rfl rfl rfl <| .nil)) ?_
  refine t_alloc (cs := [.slice none 0 0, I 0, I 0]) H Al60 rfl ?_
  intro b_1 w25z H
  refine t_st (k := 0) (b := b_1) (off := 0) (cs := [.slice none 0 0, I 0, I 0]) (vs := [.slice none 0 0, I r3, I r4]) (cs' := [.slice none 0 0, I r3, I r4]) (v := .agg #[.slice none 0 0, I r3, I r4]) (L' := [cBlk b_1 [.slice none 0 0, I r3, I r4] 60, cBlk b_s [v_s_bytes, I q13, I q23] 158, cOwn (α := Raw 2) 60 v_l4 rw_l4, cRo B_l4]) H rfl rfl rfl Sz60 rfl rfl rfl rfl rfl rfl ?_
  intro w26z H
  refine s_nil <| W.seq <| sQ rfl <| sM (I (s8 : Int)) rfl ?_
  obtain ⟨sd27z, hM⟩ := M.e_gd hM
  refine sR (s8 : Int) 1 ((s8 : Int) - 1) rfl rfl rfl (by omega) <| sA (I ((s8 : Int) - 1)) rfl <| s_nil <| W.block ?_
  replace H : St w w26z [cOwn (α := Int) 3 (.slice none 0 0) ([]), cBlk b_1 [.slice none 0 0, I r3, I r4] 60, cBlk b_s [v_s_bytes, I q13, I q23] 158, cOwn (α := Raw 2) 60 v_l4 rw_l4, cRo B_l4] R := H.nilOwn (α := Int) 3
  obtain ⟨ex28z, hi29z, hk30z⟩ := M.e_bind hM
  obtain ⟨m0_, hi29z⟩ := M.e_iter hi29z
  refine W.loop (fun m σ W => ∃ (s2 : Int) (s3 : Int) (k : Int) (l : List Int) (v_l : Value) (ρ : Env), σ = upds ρ [(0, Pz b_s), (5, v_l4), (6, I (s8 : Int)), (7, Pz b_1), (8, I k), (11, I r2), (12, I (s8 : Int))] ∧ M.iterN (m_nilometerlaw13_Made_b2 s_bytes s8) m (s2, s3, k, l) = some ex28z ∧ St w W [cOwn (α := Int) 3 v_l l, cBlk b_1 [v_l, I r3, I r4] 60, cBlk b_s [v_s_bytes, I s2, I s3] 158, cOwn (α := Raw 2) 60 v_l4 rw_l4, cRo B_l4] R) ?_ ?_
  ·exact ⟨_, q13, q23, (s8 : Int) - 1, [], (.slice none 0 0), _, upds_of _ _ ⟨rfl, rfl, rfl, rfl, rfl, rfl, rfl, trivial⟩, hi29z, H⟩
  rintro m33z σ w31z ⟨s2, s3, k, l, v_l, ρ, rfl, hI32z, H⟩
  obtain ⟨m34z, lt35z, x36z, hM, hN37z⟩ := M.e_iterN hI32z
  simp only [m_nilometerlaw13_Made_b2] at hM
  clear hI32z
  refine W.seq <| sQ rfl <| sM (I k) rfl <| sC k 0 (decide (0 ≤ k)) rfl rfl rfl <| sM (B (decide (0 ≤ k))) rfl <| g_val (decide (0 ≤ k)) (gy_t rfl) (fun hg => x_fa (a := Pz b_1) (v := Pz b_1) rfl (fa_blk (o := 0) Fd60_0 Sz34)) <| g_val (decide (0 ≤ k)) (gy_t rfl) (fun hg => x_ld (p := Pz b_1) (v := v_l) (gd_of (c := decide (0 ≤ k)) hg (Pz b_1)) (ldb_sc Sc34 (H.blk (k := 1) rfl) rfl)) <| g_val (decide (0 ≤ k)) (gy_t rfl) (fun hg => x_lenS T34.und (gd_of (c := decide (0 ≤ k)) hg (v_l)) (ownSl (H.get (k := 0) rfl))) <| g_val (decide (0 ≤ k)) (gy_t rfl) (fun hg => x_cmp (kd := .i64) (a := (l.length : Int)) (b := 5) (r := decide ((l.length : Int) < 5)) (gd_of (c := decide (0 ≤ k)) hg (I (l.length : Int))) rfl rfl) <| s_val (x_pand (b := decide (0 ≤ k)) (r := decide ((l.length : Int) < 5)) rfl (fun hb => gd_of (c := decide (0 ≤ k)) (by first | exact hb | (rw [hb]; rfl) | simp_all) (B (decide ((l.length : Int) < 5)))) rfl) <| sM (B ((decide (0 ≤ k)) && (decide ((l.length : Int) < 5)))) rfl ?_
  refine g_val ((decide (0 ≤ k)) && (decide ((l.length : Int) < 5))) (gy_t rfl) (fun hg => x_mv (v := I (s8 : Int)) rfl) <| g_val ((decide (0 ≤ k)) && (decide ((l.length : Int) < 5))) (gy_t rfl) (fun hg => x_cmp (kd := .i64) (a := (s8 : Int)) (b := 2) (r := decide (2 < (s8 : Int))) (gd_of (c := ((decide (0 ≤ k)) && (decide ((l.length : Int) < 5)))) hg (I (s8 : Int))) rfl rfl) <| s_val (x_pand (b := ((decide (0 ≤ k)) && (decide ((l.length : Int) < 5)))) (r := decide (2 < (s8 : Int))) rfl (fun hb => gd_of (c := ((decide (0 ≤ k)) && (decide ((l.length : Int) < 5)))) (by first | exact hb | (rw [hb]; rfl) | simp_all) (B (decide (2 < (s8 : Int))))) rfl) <| s_nil ?_
  refine W.cond (((decide (0 ≤ k)) && (decide ((l.length : Int) < 5))) && (decide (2 < (s8 : Int)))) rfl (fun c39z => ?_) (fun c39z => ?_)
  ·replace hM := M.e_t hM c39z
   refine W.skip <| W.seq <| W.block <| sQ rfl <| sM (Pz b_s) rfl ?_
   obtain ⟨r41z, hx40z, hM⟩ := M.e_bind hM
   refine s_call cf44 [Pz b_s, I 3] rfl (nilometerkit_Stream_Next_ok s_bytes s2 s3 3 (hC_s_bytes.app _) hs_s_bytes hx40z _ (St.give (L := [cBlk b_s [v_s_bytes, I s2, I s3] 158, cOwn (α := Int) 3 v_l l, cBlk b_1 [v_l, I r3, I r4] 60, cOwn (α := Raw 2) 60 v_l4 rw_l4, cRo B_l4]) (A := [cBlk b_s [v_s_bytes, I s2, I s3] 158]) (T := [cOwn (α := Int) 3 v_l l, cBlk b_1 [v_l, I r3, I r4] 60, cOwn (α := Raw 2) 60 v_l4 rw_l4, cRo B_l4]) (H.pick [2, 0, 1, 3, 4] (by decide) rfl) rfl)) ?_
   rintro vq w42z ⟨r5, q14, q24, hr43z, hvq, H2_⟩
   subst hr43z
   subst vq
   try dsimp only at hM
   replace H : St w w42z [cBlk b_s [v_s_bytes, I q14, I q24] 158, cOwn (α := Int) 3 v_l l, cBlk b_1 [v_l, I r3, I r4] 60, cOwn (α := Raw 2) 60 v_l4 rw_l4, cRo B_l4] R := H.pick [2, 0, 1, 3, 4] (by decide) rfl |>.back H2_ rfl
   clear H2_
   refine sC r5 0 (r5 == 0) rfl rfl rfl <| s_nil ?_
   refine W.cond (r5 == 0) rfl (fun c44z => ?_) (fun c44z => ?_)
   ·replace hM := M.e_t hM c44z
    simp only [qz1, qz2, qz3, qz4, qz5, qz6, ne_eq, qz7] at c44z
    refine W.region rfl <| s_val (x_fa (a := Pz b_1) (v := Pz b_1) rfl (fa_blk (o := 0) Fd60_0 Sz34)) <| s_val (x_ld (p := Pz b_1) (v := v_l) rfl (ldb_sc Sc34 (H.blk (k := 2) rfl) rfl)) <| sM (I k) rfl ?_
    refine t_bs (α := Int) T34 [I k] [(k : Int)] H rfl (.cons rfl (Flat.rep_enc _ (k : Int)) <| .nil) rfl rfl rfl ?_
    intro v45z w46z H
    obtain ⟨sd47z, hM⟩ := M.e_gd hM
    refine t_app (α := Int) (k := 2) (l := l) (l2 := [(k : Int)]) (l' := l ++ ([(k : Int)])) (vy := v45z) T34 rfl H rfl rfl rfl (ownSl (H.get (k := 0) rfl)) (ownLe _ (H.get (k := 0) rfl)) (rfl) (by first | omega | (simp only [List.length_nil] at *; omega)) ?_
    intro v48z w49z H
    replace H : St w w49z [cOwn (α := Int) 3 v45z ([(k : Int)]), cBlk b_s [v_s_bytes, I q14, I q24] 158, cOwn (α := Int) 3 v48z (l ++ ([(k : Int)])), cBlk b_1 [v_l, I r3, I r4] 60, cOwn (α := Raw 2) 60 v_l4 rw_l4, cRo B_l4] R := H
    refine s_val (x_fa (a := Pz b_1) (v := Pz b_1) rfl (fa_blk (o := 0) Fd60_0 Sz34)) ?_
    refine t_st (k := 3) (b := b_1) (off := 0) (cs := [v_l, I r3, I r4]) (vs := [v48z]) (cs' := [v48z, I r3, I r4]) (v := v48z) (L' := [cOwn (α := Int) 3 v45z ([(k : Int)]), cBlk b_s [v_s_bytes, I q14, I q24] 158, cOwn (α := Int) 3 v48z (l ++ ([(k : Int)])), cBlk b_1 [v48z, I r3, I r4] 60, cOwn (α := Raw 2) 60 v_l4 rw_l4, cRo B_l4]) H rfl rfl rfl Sz34 (Sl.cells (ownSl (H.get (k := 2) rfl))) rfl rfl (by simp only [List.all_cons, List.all_nil, Bool.true_and, Bool.and_true, Sl.oc (ownSl (H.get (k := 2) rfl))]; try rfl) rfl rfl ?_
    intro w50z H
    refine s_nil <| W.region rfl <| sM (I k) rfl ?_
    obtain ⟨sd51z, hM⟩ := M.e_gd hM
    refine sR k 1 (k - 1) rfl rfl rfl (by omega) <| sA (I (k - 1)) rfl <| s_nil ?_
    exact ⟨m34z, lt35z, q14, q24, k - 1, l ++ ([(k : Int)]), v48z, _, upds_of _ _ ⟨rfl, rfl, rfl, rfl, rfl, rfl, rfl, trivial⟩, M.e_inl hM hN37z, (H.pick [2, 3, 1, 4, 5] (by decide) rfl)⟩
   replace hM := M.e_f hM c44z
   simp only [qz1, qz2, qz3, qz4, qz5, qz6, ne_eq, qz7] at c44z
   refine W.skip <| W.region rfl <| sM (I k) rfl ?_
   obtain ⟨sd52z, hM⟩ := M.e_gd hM
   refine sR k 1 (k - 1) rfl rfl rfl (by omega) <| sA (I (k - 1)) rfl <| s_nil ?_
   exact ⟨m34z, lt35z, q14, q24, k - 1, l, v_l, _, upds_of _ _ ⟨rfl, rfl, rfl, rfl, rfl, rfl, rfl, trivial⟩, M.e_inl hM hN37z, (H.pick [1, 2, 0, 3, 4] (by decide) rfl)⟩
  replace hM := M.e_f hM c39z
  refine W.exit ?_
  have hX53z := M.e_inr hM hN37z
  subst hX53z
  replace hM := hk30z
  try dsimp only at hM
  refine W.region rfl <| sM v_l4 rfl <| s_val (x_ld (p := Pz b_1) (v := .agg #[v_l, I r3, I r4]) rfl (ldb_ag (ds := [v_l, I r3, I r4]) Ag60 Sz60 (H.blk (k := 1) rfl) rfl rfl)) ?_
  obtain ⟨Bs_5, H⟩ := H.emptyE
  obtain ⟨Bs_6, H, hs55z⟩ := H.freezeE (k := 1) rfl
  replace H : St w w31z [cRo Bs_5, cRo Bs_6, cBlk b_1 [v_l, I r3, I r4] 60, cBlk b_s [v_s_bytes, I s2, I s3] 158, cOwn (α := Raw 2) 60 v_l4 rw_l4, cRo B_l4] R := H
  have hq54z := hs55z
  obtain ⟨Bs_7, H, le56z, le57z⟩ := H.joinE (i := 0) (j := 1) rfl rfl
  replace hq54z := hq54z.mono le57z
  obtain ⟨rw58z, hrw_rw58z⟩ : ∃ r : Raw 2, r.cs = [v_l, I r3, I r4] := ⟨Raw.of [v_l, I r3, I r4] rfl (by simp only [List.all_cons, List.all_nil, Bool.true_and, Bool.and_true, Sl.oc hq54z]; try rfl), rfl⟩
  have hr59z : RepR (α := Work) Bs_7.cells [rw58z] [(⟨l, (r3 : Int), (r4 : Int)⟩ : Work)] := .cons (by rw [hrw_rw58z]; exact ⟨_, rfl, hq54z⟩) <| .nil
  refine t_bs (α := Raw 2) T22 [.agg #[v_l, I r3, I r4]] [rw58z] H rfl (.cons (by rw [show (Flat.enc rw58z : List Value) = rw58z.cs from rfl, hrw_rw58z]; rfl) (Flat.rep_enc _ _) <| .nil) rfl rfl rfl ?_
  intro v60z w61z H
  replace H : St w w61z [cOwn (α := Raw 2) 60 v60z ([rw58z]), cRo Bs_7, cRo Bs_5, cRo Bs_6, cBlk b_1 [v_l, I r3, I r4] 60, cBlk b_s [v_s_bytes, I s2, I s3] 158, cOwn (α := Raw 2) 60 v_l4 rw_l4, cRo B_l4] R := H
  obtain ⟨sd62z, hM⟩ := M.e_gd hM
  have hr63z := hr59z
  obtain ⟨Bs_11, H, le64z, le65z⟩ := H.joinE (i := 7) (j := 1) rfl rfl
  replace hr_l4 := hr_l4.mono le64z
  replace hr63z := hr63z.mono le65z
  have hr68z := hr_l4.app hr63z
  refine t_app (α := Raw 2) (k := 7) (l := rw_l4) (l2 := [rw58z]) (l' := rw_l4 ++ ([rw58z])) (vy := v60z) T22 rfl H rfl rfl rfl (ownSl (H.get (k := 1) rfl)) (ownLe _ (H.get (k := 1) rfl)) (rfl) (by have a_ := hr_l4.len; have b_ := hr63z.len; simp only [List.length_nil] at *; first | omega | (rw [a_, b_]; omega)) ?_
  intro v66z w67z H
  replace H : St w w67z [cRo Bs_11, cOwn (α := Raw 2) 60 v60z ([rw58z]), cRo Bs_7, cRo Bs_5, cRo Bs_6, cBlk b_1 [v_l, I r3, I r4] 60, cBlk b_s [v_s_bytes, I s2, I s3] 158, cOwn (α := Raw 2) 60 v66z (rw_l4 ++ ([rw58z])), cRo B_l4] R := H
  refine sA v66z rfl <| s_nil <| W.region rfl ?_
  obtain ⟨sd69z, hM⟩ := M.e_gd hM
  refine sR (s8 : Int) 1 ((s8 : Int) + 1) rfl rfl rfl (by omega) <| sM (I ((s8 : Int) + 1)) rfl <| s_nil ?_
  exact ⟨m12z, lt13z, s2, s3, s8 + 1, l4 ++ ([(⟨l, (r3 : Int), (r4 : Int)⟩ : Work)]), v66z, rw_l4 ++ ([rw58z]), Bs_11, _, upds_of _ _ ⟨rfl, rfl, rfl, rfl, trivial⟩, M.e_inl hM hN15z, (H.pick [7, 0, 6] (by decide) rfl), hr68z⟩
 replace hM := M.e_f hM c16z
 simp only [qz1, qz2, qz3, qz4, qz5, qz6, ne_eq, qz7] at c16z
 refine W.exit ?_
 have hX70z := M.e_inr hM hN15z
 subst hX70z
 replace hM := hk8z
 try dsimp only at hM
 refine sQ rfl <| sM v_l4 rfl <| sA v_l4 rfl <| s_nil ?_
 refine W.ret ?_
 have hr_ := M.e_pure hM
 exact ⟨_, resE_tmp rfl, ⟨l4, s6, s7, v_l4, rw_l4, B_l4, hr_, rfl, H, hr_l4⟩⟩

def m_nilometerlaw13_Noted_b2 (s_bytes : List UInt8) (s7 : Nat) (r2 : Int) : (Int × Int × Nat × (List Note)) → M ((Int × Int × Nat × (List Note)) ⊕ (Int × Int × (List Note) × (List Note))) := fun (s2, s3, s4, l4) =>
  bif decide ((s4 : Int) < r2) then (
  M.bind (m_nilometerkit_Stream_Next s_bytes s2 s3 3) fun (r4, q13, q23) =>
  bif r4 == 0 then (
  M.bind (m_nilometerkit_Stream_Next s_bytes q13 q23 2000) fun (r5, q14, q24) =>
  M.grd (decide ((l4.length + ([(⟨(s7 : Int), (s4 : Int), (r5 : Int)⟩ : Note)]).length) * 24 ≤ 140737488355328)) <|
  M.grd (decide ((-9223372036854775808 : Int) ≤ ((s4 : Int) + 1)) && decide (((s4 : Int) + 1) ≤ (9223372036854775807 : Int))) <|
  M.pure (.inl (q14, q24, s4 + 1, l4 ++ ([(⟨(s7 : Int), (s4 : Int), (r5 : Int)⟩ : Note)]))))
  else (
  M.grd (decide ((-9223372036854775808 : Int) ≤ ((s4 : Int) + 1)) && decide (((s4 : Int) + 1) ≤ (9223372036854775807 : Int))) <|
  M.pure (.inl (q13, q23, s4 + 1, l4))))
  else (
  M.pure (.inr (s2, s3, l4, l4)))
def m_nilometerlaw13_Noted_b3 (s_bytes : List UInt8) (w_ : List Work) : (Nat × Int × Int × (List Note) × (List Note)) → M ((Nat × Int × Int × (List Note) × (List Note)) ⊕ ((List Note) × (List Note) × (List Note) × (List Note) × Int × Int)) := fun (s7, s8, s9, l6, l7) =>
  bif decide ((s7 : Int) < (w_.length : Int)) then (
  M.grd (decide ((s7 : Int) < (w_.length : Int))) <|
  bif decide (0 < (((w_.getD s7 default).of).length : Int)) then (
  M.pure (.inl (s7 + 1, s8, s9, l6, l7)))
  else (
  M.bind (m_nilometerkit_Stream_Next s_bytes s8 s9 9) fun (r2, q1, q2) =>
  M.bind (m_nilometerkit_Stream_Next s_bytes q1 q2 2000) fun (r3, q12, q22) =>
  M.grd (decide ((l6.length + ([(⟨(s7 : Int), (r2 : Int), (r3 : Int)⟩ : Note)]).length) * 24 ≤ 140737488355328)) <|
  M.bind (M.iter (m_nilometerlaw13_Noted_b2 s_bytes s7 r2) (q12, q22, 0, l7)) fun (s5, s6, l2, l5) =>
  M.pure (.inl (s7 + 1, s5, s6, l6 ++ ([(⟨(s7 : Int), (r2 : Int), (r3 : Int)⟩ : Note)]), l5))))
  else (
  M.pure (.inr (l6, l7, l7, l6, s8, s9)))
def m_nilometerlaw13_Noted (s_bytes : List UInt8) (s_used : Int) (s_mix : Int) (w_ : List Work) : M ((List Note) × Int × Int) :=
  M.bind (M.iter (m_nilometerlaw13_Noted_b3 s_bytes w_) (0, s_used, s_mix, [], [])) fun (l8, l9, l10, l11, s10, s11) =>
  M.grd (decide ((l11.length + l10.length) * 24 ≤ 140737488355328)) <|
  M.pure ((l11 ++ l10), s10, s11)
theorem nilometerlaw13_Noted_ok {R : List Chunk} {b_s : Nat} {C_s_bytes : Cells} {v_s_bytes : Value} {C_w_ : Cells} {v_w_ : Value} (s_bytes : List UInt8) (s_used : Int) (s_mix : Int) (w_ : List Work) (hC_s_bytes : Reads R C_s_bytes) (hs_s_bytes : Sl C_s_bytes v_s_bytes s_bytes) (hC_w_ : Reads R C_w_) (hs_w_ : Sl C_w_ v_w_ w_) {r : ((List Note) × Int × Int)} (hM : (m_nilometerlaw13_Noted s_bytes s_used s_mix w_).Ends r) (w : World) (H : St w w [cBlk b_s [v_s_bytes, I s_used, I s_mix] 158] R) : Ret Try.prog 42 #[Pz b_s, v_w_] w fun v w' => ∃ (y0 : List Note) (y1 : Int) (y2 : Int) (u0 : Value), (y0, y1, y2) = r ∧ v = u0 ∧ St w w' [cOwn (α := Note) 30 u0 y0, cBlk b_s [v_s_bytes, I y1, I y2] 158] R := by
 refine ret_of_W Try.func42 rfl rfl rfl ?_
 refine sQ rfl <| sA (.slice none 0 0) rfl <| s_nil <| sQ rfl <| sA (.slice none 0 0) rfl <| sA (.slice none 0 0) rfl <| s_nil <| W.seq <| sQ rfl ?_
 refine sM v_w_ rfl ?_
 have hl1z := (hs_w_).len_le
 refine s_val (x_lenS T22.und rfl hs_w_) <| sM (I 0) rfl <| s_nil <| W.block ?_
 replace H : St w w [cOwn (α := Note) 30 (.slice none 0 0) ([]), cBlk b_s [v_s_bytes, I s_used, I s_mix] 158] R := H.nilOwn (α := Note) 30
 replace H : St w w [cOwn (α := Note) 30 (.slice none 0 0) ([]), cOwn (α := Note) 30 (.slice none 0 0) ([]), cBlk b_s [v_s_bytes, I s_used, I s_mix] 158] R := H.nilOwn (α := Note) 30
 obtain ⟨ex2z, hi3z, hk4z⟩ := M.e_bind hM
 obtain ⟨m0_, hi3z⟩ := M.e_iter hi3z
 refine W.loop (fun m σ W => ∃ (s7 : Nat) (s8 : Int) (s9 : Int) (l6 : List Note) (l7 : List Note) (v_l6 : Value) (v_l7 : Value) (ρ : Env), σ = upds ρ [(0, Pz b_s), (5, v_l6), (6, v_l7), (11, v_w_), (12, I (w_.length : Int)), (13, I (s7 : Int))] ∧ M.iterN (m_nilometerlaw13_Noted_b3 s_bytes w_) m (s7, s8, s9, l6, l7) = some ex2z ∧ St w W [cOwn (α := Note) 30 v_l7 l7, cOwn (α := Note) 30 v_l6 l6, cBlk b_s [v_s_bytes, I s8, I s9] 158] R) ?_ ?_
 ·exact ⟨_, 0, s_used, s_mix, [], [], (.slice none 0 0), (.slice none 0 0), _, upds_of _ _ ⟨rfl, rfl, rfl, rfl, rfl, rfl, trivial⟩, hi3z, H⟩
 rintro m7z σ w5z ⟨s7, s8, s9, l6, l7, v_l6, v_l7, ρ, rfl, hI6z, H⟩
 obtain ⟨m8z, lt9z, x10z, hM, hN11z⟩ := M.e_iterN hI6z
 simp only [m_nilometerlaw13_Noted_b3] at hM
 clear hI6z
 refine sQ rfl <| sC (s7 : Int) (w_.length : Int) (decide ((s7 : Int) < (w_.length : Int))) rfl rfl rfl <| s_nil <| W.seq ?_
 refine W.cond (decide ((s7 : Int) < (w_.length : Int))) rfl (fun c12z => ?_) (fun c12z => ?_)
 ·replace hM := M.e_t hM c12z
  simp only [qz1, qz2, qz3, qz4, qz5, qz6, ne_eq, qz7] at c12z
  refine W.skip <| W.seq <| W.block <| sQ rfl <| sM (I (s7 : Int)) rfl ?_
  obtain ⟨sd13z, hM⟩ := M.e_gd hM
  refine s_val (x_ix (a := v_w_) (b := I (s7 : Int)) (v := vat v_w_ 3 (Int.toNat (s7 : Int))) rfl rfl (Sl.ix (α := Work) T22.und T22.size hs_w_ (by omega) (by omega))) ?_
  obtain ⟨u14z, ha16z, hs15z⟩ := Work_atA hs_w_ (i := (s7 : Int)) (by omega) (by omega)
  replace hs15z : Sl _ u14z (w_.getD s7 default).of := hs15z
  have hl_hs15z := hs15z.len_le
  refine s_val (x_ld (p := vat v_w_ 3 (Int.toNat (s7 : Int))) (v := .agg #[u14z, I ((w_.getD s7 default).base), I ((w_.getD s7 default).minutes)]) rfl (ld_ag Ag60 Sz60 (At.mono ha16z (hC_w_.at H)))) ?_
  refine t_alloc (cs := [.slice none 0 0, I 0, I 0]) H Al60 rfl ?_
  intro b_1 w17z H
  refine sA (I (s7 : Int)) rfl ?_
  refine t_st (k := 0) (b := b_1) (off := 0) (cs := [.slice none 0 0, I 0, I 0]) (vs := [u14z, I ((w_.getD s7 default).base), I ((w_.getD s7 default).minutes)]) (cs' := [u14z, I ((w_.getD s7 default).base), I ((w_.getD s7 default).minutes)]) (v := .agg #[u14z, I ((w_.getD s7 default).base), I ((w_.getD s7 default).minutes)]) (L' := [cBlk b_1 [u14z, I ((w_.getD s7 default).base), I ((w_.getD s7 default).minutes)] 60, cOwn (α := Note) 30 v_l7 l7, cOwn (α := Note) 30 v_l6 l6, cBlk b_s [v_s_bytes, I s8, I s9] 158]) H rfl rfl rfl Sz60 rfl rfl rfl (by simp only [List.all_cons, List.all_nil, Bool.true_and, Bool.and_true, Sl.oc hs15z]; try rfl) rfl rfl ?_
  intro w18z H
  refine s_nil <| W.seq <| sQ rfl <| s_val (x_fa (a := Pz b_1) (v := Pz b_1) rfl (fa_blk (o := 0) Fd60_0 Sz34)) <| s_val (x_ld (p := Pz b_1) (v := u14z) rfl (ldb_sc Sc34 (H.blk (k := 0) rfl) rfl)) ?_
  have hl19z := (hs15z).len_le
  refine s_val (x_lenS T34.und rfl hs15z) <| sC (((w_.getD s7 default).of).length : Int) 0 (decide (0 < (((w_.getD s7 default).of).length : Int))) rfl rfl rfl <| s_nil ?_
  refine W.cond (decide (0 < (((w_.getD s7 default).of).length : Int))) rfl (fun c20z => ?_) (fun c20z => ?_)
  ·replace hM := M.e_t hM c20z
   simp only [qz1, qz2, qz3, qz4, qz5, qz6, ne_eq, qz7] at c20z
   refine W.exit ?_
   refine W.region rfl <| sR (s7 : Int) 1 ((s7 : Int) + 1) rfl rfl rfl (by omega) <| sM (I ((s7 : Int) + 1)) rfl <| s_nil ?_
   exact ⟨m8z, lt9z, s7 + 1, s8, s9, l6, l7, v_l6, v_l7, _, upds_of _ _ ⟨rfl, rfl, rfl, rfl, rfl, rfl, trivial⟩, M.e_inl hM hN11z, (H.pick [1, 2, 3] (by decide) rfl)⟩
  replace hM := M.e_f hM c20z
  simp only [qz1, qz2, qz3, qz4, qz5, qz6, ne_eq, qz7] at c20z
  refine W.skip <| sQ rfl <| sM (I (s7 : Int)) rfl <| sM (Pz b_s) rfl ?_
  obtain ⟨r22z, hx21z, hM⟩ := M.e_bind hM
  refine s_call cf44 [Pz b_s, I 9] rfl (nilometerkit_Stream_Next_ok s_bytes s8 s9 9 (hC_s_bytes.app _) hs_s_bytes hx21z _ (St.give (L := [cBlk b_s [v_s_bytes, I s8, I s9] 158, cBlk b_1 [u14z, I ((w_.getD s7 default).base), I ((w_.getD s7 default).minutes)] 60, cOwn (α := Note) 30 v_l7 l7, cOwn (α := Note) 30 v_l6 l6]) (A := [cBlk b_s [v_s_bytes, I s8, I s9] 158]) (T := [cBlk b_1 [u14z, I ((w_.getD s7 default).base), I ((w_.getD s7 default).minutes)] 60, cOwn (α := Note) 30 v_l7 l7, cOwn (α := Note) 30 v_l6 l6]) (H.pick [3, 0, 1, 2] (by decide) rfl) rfl)) ?_
  rintro vq w23z ⟨r2, q1, q2, hr24z, hvq, H2_⟩
  subst hr24z
  subst vq
  try dsimp only at hM
  replace H : St w w23z [cBlk b_s [v_s_bytes, I q1, I q2] 158, cBlk b_1 [u14z, I ((w_.getD s7 default).base), I ((w_.getD s7 default).minutes)] 60, cOwn (α := Note) 30 v_l7 l7, cOwn (α := Note) 30 v_l6 l6] R := H.pick [3, 0, 1, 2] (by decide) rfl |>.back H2_ rfl
  clear H2_
  refine sM (Pz b_s) rfl ?_
  obtain ⟨r26z, hx25z, hM⟩ := M.e_bind hM
  refine s_call cf44 [Pz b_s, I 2000] rfl (nilometerkit_Stream_Next_ok s_bytes q1 q2 2000 (hC_s_bytes.app _) hs_s_bytes hx25z _ (St.give (T := [cBlk b_1 [u14z, I ((w_.getD s7 default).base), I ((w_.getD s7 default).minutes)] 60, cOwn (α := Note) 30 v_l7 l7, cOwn (α := Note) 30 v_l6 l6]) H rfl)) ?_
  rintro vq w27z ⟨r3, q12, q22, hr28z, hvq, H2_⟩
  subst hr28z
  subst vq
  try dsimp only at hM
  replace H : St w w27z [cBlk b_s [v_s_bytes, I q12, I q22] 158, cBlk b_1 [u14z, I ((w_.getD s7 default).base), I ((w_.getD s7 default).minutes)] 60, cOwn (α := Note) 30 v_l7 l7, cOwn (α := Note) 30 v_l6 l6] R := H.back H2_ rfl
  clear H2_
  refine s_val (x_bld (ps := [(0, I (s7 : Int)), (1, I r2), (2, I r3)]) (zs := [I 0, I 0, I 0]) (L' := [I (s7 : Int), I r2, I r3]) rfl Try.underlying30 Al30 rfl (Bd30 Try.underlying30) (.cons (cs := [I (s7 : Int)]) rfl rfl rfl rfl rfl <| .cons (cs := [I r2]) rfl rfl rfl rfl rfl <| .cons (cs := [I r3]) rfl rfl rfl rfl rfl <| .nil)) ?_
  refine t_alloc (cs := [I 0, I 0, I 0]) H Al30 rfl ?_
  intro b_2 w29z H
  refine t_st (k := 0) (b := b_2) (off := 0) (cs := [I 0, I 0, I 0]) (vs := [I (s7 : Int), I r2, I r3]) (cs' := [I (s7 : Int), I r2, I r3]) (v := .agg #[I (s7 : Int), I r2, I r3]) (L' := [cBlk b_2 [I (s7 : Int), I r2, I r3] 30, cBlk b_s [v_s_bytes, I q12, I q22] 158, cBlk b_1 [u14z, I ((w_.getD s7 default).base), I ((w_.getD s7 default).minutes)] 60, cOwn (α := Note) 30 v_l7 l7, cOwn (α := Note) 30 v_l6 l6]) H rfl rfl rfl Sz30 rfl rfl rfl rfl rfl rfl ?_
  intro w30z H
  refine s_nil <| sQ rfl <| sM v_l6 rfl <| s_val (x_ld (p := Pz b_2) (v := .agg #[I (s7 : Int), I r2, I r3]) rfl (ldb_ag (ds := [I (s7 : Int), I r2, I r3]) Ag30 Sz30 (H.blk (k := 0) rfl) rfl rfl)) ?_
  refine t_bs (α := Note) T23 [.agg #[I (s7 : Int), I r2, I r3]] [(⟨(s7 : Int), (r2 : Int), (r3 : Int)⟩ : Note)] H rfl (.cons rfl (Flat.rep_enc _ (⟨(s7 : Int), (r2 : Int), (r3 : Int)⟩ : Note)) <| .nil) rfl rfl rfl ?_
  intro v31z w32z H
  obtain ⟨sd33z, hM⟩ := M.e_gd hM
  refine t_app (α := Note) (k := 5) (l := l6) (l2 := [(⟨(s7 : Int), (r2 : Int), (r3 : Int)⟩ : Note)]) (l' := l6 ++ ([(⟨(s7 : Int), (r2 : Int), (r3 : Int)⟩ : Note)])) (vy := v31z) T23 rfl H rfl rfl rfl (ownSl (H.get (k := 0) rfl)) (ownLe _ (H.get (k := 0) rfl)) (rfl) (by first | omega | (simp only [List.length_nil] at *; omega)) ?_
  intro v34z w35z H
  replace H : St w w35z [cOwn (α := Note) 30 v31z ([(⟨(s7 : Int), (r2 : Int), (r3 : Int)⟩ : Note)]), cBlk b_2 [I (s7 : Int), I r2, I r3] 30, cBlk b_s [v_s_bytes, I q12, I q22] 158, cBlk b_1 [u14z, I ((w_.getD s7 default).base), I ((w_.getD s7 default).minutes)] 60, cOwn (α := Note) 30 v_l7 l7, cOwn (α := Note) 30 v34z (l6 ++ ([(⟨(s7 : Int), (r2 : Int), (r3 : Int)⟩ : Note)]))] R := H
  refine sA v34z rfl <| s_nil <| sQ rfl <| s_val (x_fa (a := Pz b_2) (v := Oz b_2 1) rfl (fa_blk (o := 0) Fd30_1 Sz3)) <| s_val (x_ld (p := Oz b_2 1) (v := I r2) rfl (ldb_sc Sc3 (H.blk (k := 1) rfl) rfl)) <| sM (I 0) rfl <| s_nil <| W.block ?_
  obtain ⟨ex36z, hi37z, hk38z⟩ := M.e_bind hM
  obtain ⟨m0_, hi37z⟩ := M.e_iter hi37z
  refine W.loop (fun m σ W => ∃ (s2 : Int) (s3 : Int) (s4 : Nat) (l4 : List Note) (v_l4 : Value) (ρ : Env), σ = upds ρ [(0, Pz b_s), (5, v34z), (6, v_l4), (7, I (s7 : Int)), (11, v_w_), (12, I (w_.length : Int)), (13, I (s7 : Int)), (33, I r2), (34, I (s4 : Int))] ∧ M.iterN (m_nilometerlaw13_Noted_b2 s_bytes s7 r2) m (s2, s3, s4, l4) = some ex36z ∧ St w W [cOwn (α := Note) 30 v31z ([(⟨(s7 : Int), (r2 : Int), (r3 : Int)⟩ : Note)]), cBlk b_2 [I (s7 : Int), I r2, I r3] 30, cBlk b_s [v_s_bytes, I s2, I s3] 158, cBlk b_1 [u14z, I ((w_.getD s7 default).base), I ((w_.getD s7 default).minutes)] 60, cOwn (α := Note) 30 v_l4 l4, cOwn (α := Note) 30 v34z (l6 ++ ([(⟨(s7 : Int), (r2 : Int), (r3 : Int)⟩ : Note)]))] R) ?_ ?_
  ·exact ⟨_, q12, q22, 0, l7, v_l7, _, upds_of _ _ ⟨rfl, rfl, rfl, rfl, rfl, rfl, rfl, rfl, rfl, trivial⟩, hi37z, H⟩
  rintro m41z σ w39z ⟨s2, s3, s4, l4, v_l4, ρ, rfl, hI40z, H⟩
  obtain ⟨m42z, lt43z, x44z, hM, hN45z⟩ := M.e_iterN hI40z
  simp only [m_nilometerlaw13_Noted_b2] at hM
  clear hI40z
  refine sQ rfl <| sC (s4 : Int) r2 (decide ((s4 : Int) < r2)) rfl rfl rfl <| s_nil <| W.seq ?_
  refine W.cond (decide ((s4 : Int) < r2)) rfl (fun c46z => ?_) (fun c46z => ?_)
  ·replace hM := M.e_t hM c46z
   simp only [qz1, qz2, qz3, qz4, qz5, qz6, ne_eq, qz7] at c46z
   refine W.skip <| W.seq <| W.block <| sQ rfl <| sM (I (s4 : Int)) rfl <| sA (I (s4 : Int)) rfl <| s_nil <| sQ rfl <| sM (Pz b_s) rfl ?_
   obtain ⟨r48z, hx47z, hM⟩ := M.e_bind hM
   refine s_call cf44 [Pz b_s, I 3] rfl (nilometerkit_Stream_Next_ok s_bytes s2 s3 3 (hC_s_bytes.app _) hs_s_bytes hx47z _ (St.give (L := [cBlk b_s [v_s_bytes, I s2, I s3] 158, cOwn (α := Note) 30 v31z ([(⟨(s7 : Int), (r2 : Int), (r3 : Int)⟩ : Note)]), cBlk b_2 [I (s7 : Int), I r2, I r3] 30, cBlk b_1 [u14z, I ((w_.getD s7 default).base), I ((w_.getD s7 default).minutes)] 60, cOwn (α := Note) 30 v_l4 l4, cOwn (α := Note) 30 v34z (l6 ++ ([(⟨(s7 : Int), (r2 : Int), (r3 : Int)⟩ : Note)]))]) (A := [cBlk b_s [v_s_bytes, I s2, I s3] 158]) (T := [cOwn (α := Note) 30 v31z ([(⟨(s7 : Int), (r2 : Int), (r3 : Int)⟩ : Note)]), cBlk b_2 [I (s7 : Int), I r2, I r3] 30, cBlk b_1 [u14z, I ((w_.getD s7 default).base), I ((w_.getD s7 default).minutes)] 60, cOwn (α := Note) 30 v_l4 l4, cOwn (α := Note) 30 v34z (l6 ++ ([(⟨(s7 : Int), (r2 : Int), (r3 : Int)⟩ : Note)]))]) (H.pick [2, 0, 1, 3, 4, 5] (by decide) rfl) rfl)) ?_
   rintro vq w49z ⟨r4, q13, q23, hr50z, hvq, H2_⟩
   subst hr50z
   subst vq
   try dsimp only at hM
   replace H : St w w49z [cBlk b_s [v_s_bytes, I q13, I q23] 158, cOwn (α := Note) 30 v31z ([(⟨(s7 : Int), (r2 : Int), (r3 : Int)⟩ : Note)]), cBlk b_2 [I (s7 : Int), I r2, I r3] 30, cBlk b_1 [u14z, I ((w_.getD s7 default).base), I ((w_.getD s7 default).minutes)] 60, cOwn (α := Note) 30 v_l4 l4, cOwn (α := Note) 30 v34z (l6 ++ ([(⟨(s7 : Int), (r2 : Int), (r3 : Int)⟩ : Note)]))] R := H.pick [2, 0, 1, 3, 4, 5] (by decide) rfl |>.back H2_ rfl
   clear H2_
   refine sC r4 0 (r4 == 0) rfl rfl rfl <| s_nil ?_
   refine W.cond (r4 == 0) rfl (fun c51z => ?_) (fun c51z => ?_)
   ·replace hM := M.e_t hM c51z
    simp only [qz1, qz2, qz3, qz4, qz5, qz6, ne_eq, qz7] at c51z
    refine W.region rfl <| sM v_l4 rfl <| sM (I (s7 : Int)) rfl <| sM (I (s4 : Int)) rfl <| sM (Pz b_s) rfl ?_
    obtain ⟨r53z, hx52z, hM⟩ := M.e_bind hM
    refine s_call cf44 [Pz b_s, I 2000] rfl (nilometerkit_Stream_Next_ok s_bytes q13 q23 2000 (hC_s_bytes.app _) hs_s_bytes hx52z _ (St.give (T := [cOwn (α := Note) 30 v31z ([(⟨(s7 : Int), (r2 : Int), (r3 : Int)⟩ : Note)]), cBlk b_2 [I (s7 : Int), I r2, I r3] 30, cBlk b_1 [u14z, I ((w_.getD s7 default).base), I ((w_.getD s7 default).minutes)] 60, cOwn (α := Note) 30 v_l4 l4, cOwn (α := Note) 30 v34z (l6 ++ ([(⟨(s7 : Int), (r2 : Int), (r3 : Int)⟩ : Note)]))]) H rfl)) ?_
    rintro vq w54z ⟨r5, q14, q24, hr55z, hvq, H2_⟩
    subst hr55z
    subst vq
    try dsimp only at hM
    replace H : St w w54z [cBlk b_s [v_s_bytes, I q14, I q24] 158, cOwn (α := Note) 30 v31z ([(⟨(s7 : Int), (r2 : Int), (r3 : Int)⟩ : Note)]), cBlk b_2 [I (s7 : Int), I r2, I r3] 30, cBlk b_1 [u14z, I ((w_.getD s7 default).base), I ((w_.getD s7 default).minutes)] 60, cOwn (α := Note) 30 v_l4 l4, cOwn (α := Note) 30 v34z (l6 ++ ([(⟨(s7 : Int), (r2 : Int), (r3 : Int)⟩ : Note)]))] R := H.back H2_ rfl
    clear H2_
    refine s_val (x_bld (ps := [(0, I (s7 : Int)), (1, I (s4 : Int)), (2, I r5)]) (zs := [I 0, I 0, I 0]) (L' := [I (s7 : Int), I (s4 : Int), I r5]) rfl Try.underlying30 Al30 rfl (Bd30 Try.underlying30) (.cons (cs := [I (s7 : Int)]) rfl rfl rfl rfl rfl <| .cons (cs := [I (s4 : Int)]) rfl rfl rfl rfl rfl <| .cons (cs := [I r5]) rfl rfl rfl rfl rfl <| .nil)) ?_
    refine t_bs (α := Note) T23 [.agg #[I (s7 : Int), I (s4 : Int), I r5]] [(⟨(s7 : Int), (s4 : Int), (r5 : Int)⟩ : Note)] H rfl (.cons rfl (Flat.rep_enc _ (⟨(s7 : Int), (s4 : Int), (r5 : Int)⟩ : Note)) <| .nil) rfl rfl rfl ?_
    intro v56z w57z H
    obtain ⟨sd58z, hM⟩ := M.e_gd hM
    refine t_app (α := Note) (k := 5) (l := l4) (l2 := [(⟨(s7 : Int), (s4 : Int), (r5 : Int)⟩ : Note)]) (l' := l4 ++ ([(⟨(s7 : Int), (s4 : Int), (r5 : Int)⟩ : Note)])) (vy := v56z) T23 rfl H rfl rfl rfl (ownSl (H.get (k := 0) rfl)) (ownLe _ (H.get (k := 0) rfl)) (rfl) (by first | omega | (simp only [List.length_nil] at *; omega)) ?_
    intro v59z w60z H
    replace H : St w w60z [cOwn (α := Note) 30 v56z ([(⟨(s7 : Int), (s4 : Int), (r5 : Int)⟩ : Note)]), cBlk b_s [v_s_bytes, I q14, I q24] 158, cOwn (α := Note) 30 v31z ([(⟨(s7 : Int), (r2 : Int), (r3 : Int)⟩ : Note)]), cBlk b_2 [I (s7 : Int), I r2, I r3] 30, cBlk b_1 [u14z, I ((w_.getD s7 default).base), I ((w_.getD s7 default).minutes)] 60, cOwn (α := Note) 30 v59z (l4 ++ ([(⟨(s7 : Int), (s4 : Int), (r5 : Int)⟩ : Note)])), cOwn (α := Note) 30 v34z (l6 ++ ([(⟨(s7 : Int), (r2 : Int), (r3 : Int)⟩ : Note)]))] R := H
    refine sA v59z rfl <| s_nil <| W.region rfl ?_
    obtain ⟨sd61z, hM⟩ := M.e_gd hM
    refine sR (s4 : Int) 1 ((s4 : Int) + 1) rfl rfl rfl (by omega) <| sM (I ((s4 : Int) + 1)) rfl <| s_nil ?_
    exact ⟨m42z, lt43z, q14, q24, s4 + 1, l4 ++ ([(⟨(s7 : Int), (s4 : Int), (r5 : Int)⟩ : Note)]), v59z, _, upds_of _ _ ⟨rfl, rfl, rfl, rfl, rfl, rfl, rfl, rfl, rfl, trivial⟩, M.e_inl hM hN45z, (H.pick [2, 3, 1, 4, 5, 6] (by decide) rfl)⟩
   replace hM := M.e_f hM c51z
   simp only [qz1, qz2, qz3, qz4, qz5, qz6, ne_eq, qz7] at c51z
   refine W.skip <| W.region rfl ?_
   obtain ⟨sd62z, hM⟩ := M.e_gd hM
   refine sR (s4 : Int) 1 ((s4 : Int) + 1) rfl rfl rfl (by omega) <| sM (I ((s4 : Int) + 1)) rfl <| s_nil ?_
   exact ⟨m42z, lt43z, q13, q23, s4 + 1, l4, v_l4, _, upds_of _ _ ⟨rfl, rfl, rfl, rfl, rfl, rfl, rfl, rfl, rfl, trivial⟩, M.e_inl hM hN45z, (H.pick [1, 2, 0, 3, 4, 5] (by decide) rfl)⟩
  replace hM := M.e_f hM c46z
  simp only [qz1, qz2, qz3, qz4, qz5, qz6, ne_eq, qz7] at c46z
  refine W.exit ?_
  have hX63z := M.e_inr hM hN45z
  subst hX63z
  replace hM := hk38z
  try dsimp only at hM
  refine W.region rfl <| sR (s7 : Int) 1 ((s7 : Int) + 1) rfl rfl rfl (by omega) <| sM (I ((s7 : Int) + 1)) rfl <| s_nil ?_
  exact ⟨m8z, lt9z, s7 + 1, s2, s3, l6 ++ ([(⟨(s7 : Int), (r2 : Int), (r3 : Int)⟩ : Note)]), l4, v34z, v_l4, _, upds_of _ _ ⟨rfl, rfl, rfl, rfl, rfl, rfl, trivial⟩, M.e_inl hM hN11z, (H.pick [4, 5, 2] (by decide) rfl)⟩
 replace hM := M.e_f hM c12z
 simp only [qz1, qz2, qz3, qz4, qz5, qz6, ne_eq, qz7] at c12z
 refine W.exit ?_
 have hX64z := M.e_inr hM hN11z
 subst hX64z
 replace hM := hk4z
 try dsimp only at hM
 refine sQ rfl <| sM v_l6 rfl <| sM v_l7 rfl ?_
 obtain ⟨sd65z, hM⟩ := M.e_gd hM
 refine t_app (α := Note) (k := 1) (l := l6) (l2 := l7) (l' := l6 ++ l7) (vy := v_l7) T23 rfl H rfl rfl rfl (ownSl (H.get (k := 0) rfl)) (ownLe _ (H.get (k := 0) rfl)) (rfl) (by first | omega | (simp only [List.length_nil] at *; omega)) ?_
 intro v66z w67z H
 replace H : St w w67z [cOwn (α := Note) 30 v_l7 l7, cOwn (α := Note) 30 v66z (l6 ++ l7), cBlk b_s [v_s_bytes, I s8, I s9] 158] R := H
 refine sA v66z rfl <| s_nil ?_
 refine W.ret ?_
 have hr_ := M.e_pure hM
 exact ⟨_, resE_tmp rfl, ⟨(l6 ++ l7), s8, s9, v66z, hr_, rfl, (H.pick [1, 2] (by decide) rfl)⟩⟩

end Go.Proofs.Ytndobgodeicloaa
end
namespace Go.Nm
structure SOk (c u x : Int) : Prop where
  u0 : 0 ≤ u
  u1 : u ≤ c
  x0 : 0 ≤ x
  x1 : x < 251
theorem SOk.mono {c d u x : Int} (h : SOk c u x) (hd : c ≤ d) : SOk d u x := ⟨h.u0, Int.le_trans h.u1 hd, h.x0, h.x1⟩
/-- What a stream gives: a number below n. -/
structure Nx (c n : Int) (y : Int × Int × Int) : Prop where
  ok : SOk c y.2.1 y.2.2
  lt : 1 ≤ n → 0 ≤ y.1 ∧ y.1 < n
  no : n < 1 → y.1 = 0
end Go.Nm
namespace Go.Proofs.Ytndobgodeicloaa
open Go Go.Nm
theorem next_out {b : List UInt8} {c u x n : Int} (h : SOk c u x) (hc : c ≤ 1000000000000) (hn : n ≤ 1000000) : (m_nilometerkit_Stream_Next b u x n).Out (Nx (c + 1) n) := by
  obtain ⟨u0, u1, x0, x1⟩ := h
  unfold m_nilometerkit_Stream_Next
  refine M.o_if (fun hb => ?_) (fun hb => ?_)
  · simp only [Bool.or_eq_true, decide_eq_true_eq, beq_iff_eq] at hb
    refine M.o_pure ⟨⟨u0, by dsimp only; omega, x0, x1⟩, fun h1 => ⟨Int.le_refl _, ?_⟩, fun _ => rfl⟩
    dsimp only
    omega
  · simp only [Bool.or_eq_false_iff, decide_eq_false_iff_not, beq_eq_false_iff_ne, ne_eq] at hb
    have hl : (0 : Int) < (b.length : Int) := by omega
    have m0 := Int.emod_nonneg u (show (b.length : Int) ≠ 0 by omega)
    have m1 := Int.emod_lt_of_pos u hl
    have d0 := Int.ediv_nonneg u0 (show (0 : Int) ≤ (b.length : Int) by omega)
    have d1 : u / (b.length : Int) ≤ u := Int.ediv_le_self _ u0
    have y1 : ((b.getD (Int.toNat (u % (b.length : Int))) 0).toNat : Int) < 256 := by
      have := UInt8.toNat_lt (b.getD (Int.toNat (u % (b.length : Int))) 0)
      omega
    have y0 : (0 : Int) ≤ ((b.getD (Int.toNat (u % (b.length : Int))) 0).toNat : Int) := Int.natCast_nonneg _
    generalize ((b.getD (Int.toNat (u % (b.length : Int))) 0).toNat : Int) = y at *
    generalize u % (b.length : Int) = m at *
    generalize u / (b.length : Int) = d at *
    have hn0 : 0 < n := by omega
    have fin : ∀ z : Int, 0 ≤ z → 0 ≤ z % n ∧ z % n < n := fun z hz => ⟨Int.emod_nonneg _ (by omega), Int.emod_lt_of_pos _ hn0⟩
    have pr : ∀ z w : Int, 0 ≤ z → Nx (c + 1) n (z % n, u + 1, w % 251) := fun z w hz => ⟨⟨by dsimp only; omega, by dsimp only; omega, by dsimp only; omega, by dsimp only; omega⟩, fun _ => fin z hz, fun h => by omega⟩
    refine M.o_grd (by simp only [Bool.and_eq_true, decide_eq_true_eq]; omega) (M.o_grd (by simp only [Bool.and_eq_true, decide_eq_true_eq]; omega) (M.o_grd (by simp only [Bool.and_eq_true, decide_eq_true_eq]; omega) ?_))
    refine M.o_if (fun h1 => ?_) (fun h1 => ?_)
    · refine M.o_grd (by simp only [Bool.and_eq_true, decide_eq_true_eq]; omega) (M.o_grd (by simp only [Bool.and_eq_true, decide_eq_true_eq]; omega) (M.o_grd (by simp only [Bool.and_eq_true, decide_eq_true_eq]; omega) (M.o_grd (by simp only [Bool.and_eq_true, decide_eq_true_eq]; omega) (M.o_grd (by simp only [Bool.and_eq_true, decide_eq_true_eq]; omega) ?_))))
      refine M.o_grd (by simp only [Bool.and_eq_true, decide_eq_true_eq]; omega) (M.o_grd (by simp only [Bool.and_eq_true, decide_eq_true_eq]; omega) (M.o_grd (by simp only [Bool.and_eq_true, decide_eq_true_eq]; omega) (M.o_grd (by simp only [Bool.and_eq_true, decide_eq_true_eq]; omega) ?_)))
      refine M.o_if (fun h2 => ?_) (fun h2 => ?_)
      · refine M.o_grd (by simp only [Bool.and_eq_true, decide_eq_true_eq]; omega) (M.o_grd (by simp only [Bool.and_eq_true, decide_eq_true_eq]; omega) (M.o_grd (by simp only [Bool.and_eq_true, decide_eq_true_eq]; omega) (M.o_pure (pr _ _ (by omega)))))
      · refine M.o_grd (by simp only [Bool.and_eq_true, decide_eq_true_eq]; omega) (M.o_pure (pr _ _ (by omega)))
    · refine M.o_grd (by simp only [Bool.and_eq_true, decide_eq_true_eq]; omega) (M.o_grd (by simp only [Bool.and_eq_true, decide_eq_true_eq]; omega) (M.o_grd (by simp only [Bool.and_eq_true, decide_eq_true_eq]; omega) (M.o_grd (by simp only [Bool.and_eq_true, decide_eq_true_eq]; omega) (M.o_grd (by simp only [Bool.and_eq_true, decide_eq_true_eq]; omega) ?_))))
      refine M.o_if (fun h2 => ?_) (fun h2 => ?_)
      · refine M.o_grd (by simp only [Bool.and_eq_true, decide_eq_true_eq]; omega) (M.o_grd (by simp only [Bool.and_eq_true, decide_eq_true_eq]; omega) (M.o_grd (by simp only [Bool.and_eq_true, decide_eq_true_eq]; omega) (M.o_pure (pr _ _ (by omega)))))
      · refine M.o_grd (by simp only [Bool.and_eq_true, decide_eq_true_eq]; omega) (M.o_pure (pr _ _ (by omega)))
theorem within_out {b : List UInt8} {c u x lo hi : Int} (h : SOk c u x) (hc : c ≤ 1000000000000) (h0 : -1000 ≤ lo) (h1 : lo ≤ hi) (h2 : hi ≤ 10000) : (m_nilometerkit_Stream_Within b u x lo hi).Out (fun y => SOk (c + 1) y.2.1 y.2.2 ∧ lo ≤ y.1 ∧ y.1 ≤ hi) := by
  unfold m_nilometerkit_Stream_Within
  refine M.o_grd (gA2 (by omega) (by omega)) (M.o_grd (gA2 (by omega) (by omega)) (M.o_bind (next_out h hc (by omega)) ?_))
  rintro ⟨r, u', x'⟩ ⟨k, hl, _⟩
  have := hl (by omega)
  dsimp only at this k ⊢
  exact M.o_grd (gA2 (by omega) (by omega)) (M.o_pure ⟨k, by dsimp only; omega, by dsimp only; omega⟩)
/-! ### Works -/
structure OfOk (i : Nat) (l : List Int) : Prop where
  few : l.length ≤ 5
  ahead : ∀ k ∈ l, 0 ≤ k ∧ k < (i : Int)
  once : l.Nodup
  early : i ≤ 2 → l = []
theorem made_of {b : List UInt8} {c u x : Int} (h : SOk c u x) (hc : c ≤ 1000000000) {i : Nat} (hi : i ≤ 1000) :
    (M.iter (m_nilometerlaw13_Made_b2 b i) (u, x, (i : Int) - 1, [])).Out (fun y => SOk (c + i) y.1 y.2.1 ∧ OfOk i y.2.2.2) := by
  refine M.o_iter (fun (m : Nat) (s : Int × Int × Int × List Int) => m = (s.2.2.1 + 1).toNat ∧ -1 ≤ s.2.2.1 ∧ s.2.2.1 < i ∧ SOk (c + (i : Int) - (s.2.2.1 + 1)) s.1 s.2.1 ∧ s.2.2.2.length ≤ 5 ∧ (∀ k ∈ s.2.2.2, s.2.2.1 < k ∧ k < (i : Int)) ∧ s.2.2.2.Nodup ∧ (i ≤ 2 → s.2.2.2 = [])) ?_ _ (u, x, (i : Int) - 1, []) ⟨rfl, by dsimp only; omega, by dsimp only; omega, h.mono (by dsimp only; omega), by simp, by simp, by simp, fun _ => rfl⟩
  rintro m ⟨u, x, k, l⟩ ⟨rfl, k0, k1, hs, h5, hk, hn, he⟩
  dsimp only at k0 k1 hs h5 hk hn he ⊢
  simp only [m_nilometerlaw13_Made_b2]
  refine M.o_if (fun hb => ?_) (fun hb => ?_)
  · simp only [Bool.and_eq_true, decide_eq_true_eq] at hb
    refine M.o_bind (next_out hs (by omega) (by omega)) ?_
    rintro ⟨r, u', x'⟩ ⟨ok, _, _⟩
    dsimp only at ok ⊢
    refine M.o_if (fun hr => ?_) (fun hr => ?_)
    · refine M.o_grdD (by simp only [List.length_cons, List.length_nil]; omega) (M.o_grd (gA2 (by omega) (by omega)) (M.o_pure ⟨k.toNat, by omega, ?_⟩))
      refine ⟨by dsimp only; omega, by dsimp only; omega, by dsimp only; omega, ok.mono (by dsimp only; omega), ?_, ?_, ?_, ?_⟩
      · simp only [List.length_append, List.length_cons, List.length_nil]; omega
      · intro y hy
        simp only [List.mem_append, List.mem_cons, List.not_mem_nil, or_false] at hy
        rcases hy with hy | hy
        · have := hk y hy; dsimp only; omega
        · subst hy; dsimp only; omega
      · dsimp only
        rw [List.nodup_append]
        refine ⟨hn, by simp, fun a ha b hb e => ?_⟩
        simp only [List.mem_cons, List.not_mem_nil, or_false] at hb
        have := hk a ha
        omega
      · intro h2; omega
    · refine M.o_grd (gA2 (by omega) (by omega)) (M.o_pure ⟨k.toNat, by omega, ?_⟩)
      exact ⟨by dsimp only; omega, by dsimp only; omega, by dsimp only; omega, ok.mono (by dsimp only; omega), h5, fun y hy => by have := hk y hy; dsimp only; omega, hn, he⟩
  · refine M.o_pure ⟨hs.mono (by omega), h5, fun y hy => ?_, hn, he⟩
    have := hk y hy
    omega
/-- What works of numbers are like. -/
structure MadeW (most : Int) (ws : List Work) : Prop where
  built : Built ws
  two : 2 ≤ ws.length
  most : (ws.length : Int) ≤ most
  small : ∀ i, i < ws.length → (ws.getD i default).base < 2000 ∧ (ws.getD i default).minutes < 60
  src : ∀ i, i < ws.length → i ≤ 2 → (ws.getD i default).of = []
theorem made_out {b : List UInt8} {c u x most : Int} (h : SOk c u x) (hc : c ≤ 100000000) (h2 : 2 ≤ most) (h30 : most ≤ 30) : (m_nilometerlaw13_Made b u x most).Out (fun y => MadeW most y.1 ∧ SOk (c + 2000) y.2.1 y.2.2) := by
  unfold m_nilometerlaw13_Made
  refine M.o_bind (within_out h (by omega) (by omega) h2 (by omega)) ?_
  rintro ⟨r, u1, x1⟩ ⟨hs, r0, r1⟩
  dsimp only at hs r0 r1 ⊢
  refine M.o_bind (P := fun y => MadeW most y.2.1 ∧ SOk (c + 2000) y.2.2.1 y.2.2.2) ?_ (fun y hy => M.o_pure hy)
  refine M.o_for r.toNat (fun i s => s.2.2.1 = i ∧ SOk (c + 1 + 40 * i) s.1 s.2.1 ∧ s.2.2.2.length = i ∧ (∀ j, j < i → BuiltAt j (s.2.2.2.getD j default) ∧ (s.2.2.2.getD j default).base < 2000 ∧ (s.2.2.2.getD j default).minutes < 60 ∧ (j ≤ 2 → (s.2.2.2.getD j default).of = []))) ?_ ?_ (s := (u1, x1, 0, [])) ⟨rfl, hs.mono (by omega), rfl, fun j hj => by omega⟩
  · rintro i ⟨u, x, j, l⟩ hi ⟨rfl, ok, hl, hj⟩
    dsimp only at hi ok hl hj ⊢
    simp only [m_nilometerlaw13_Made_b3]
    refine M.o_t (by simp; omega) (M.o_bind (next_out ok (by omega) (by omega)) ?_)
    rintro ⟨r3, u3, x3⟩ ⟨ok3, l3, _⟩
    dsimp only at ok3 l3 ⊢
    have l3 := l3 (by omega)
    refine M.o_bind (next_out ok3 (by omega) (by omega)) ?_
    rintro ⟨r4, u4, x4⟩ ⟨ok4, l4, _⟩
    dsimp only at ok4 l4 ⊢
    have l4 := l4 (by omega)
    refine M.o_grd (gA2 (by omega) (by omega)) (M.o_bind (made_of ok4 (by omega) (i := j) (by omega)) ?_)
    rintro ⟨u5, x5, la, lo⟩ ⟨ok5, hof⟩
    dsimp only at ok5 hof ⊢
    refine M.o_grdD (by simp only [List.length_cons, List.length_nil]; omega) (M.o_grd (gA2 (by omega) (by omega)) (M.o_pure ?_))
    refine ⟨rfl, ok5.mono (by omega), by simp [hl], fun k hk => ?_⟩
    dsimp only
    by_cases e : k < l.length
    · rw [getD_app_left _ _ e]
      exact hj k (by omega)
    · obtain rfl : k = l.length := by omega
      rw [getD_app_mid]
      refine ⟨⟨hof.few, ⟨l3.1, by dsimp only; omega⟩, ⟨l4.1, by dsimp only; omega⟩, ?_, hof.once⟩, l3.2, l4.2, ?_⟩
      · rw [hl]; exact hof.ahead
      · rw [hl]; exact hof.early
  · rintro ⟨u, x, j, l⟩ ⟨rfl, ok, hl, hj⟩
    dsimp only at ok hl hj ⊢
    simp only [m_nilometerlaw13_Made_b3]
    refine M.o_f (by simp; omega) (M.o_pure ⟨⟨⟨by dsimp only; omega, fun i hi => (hj i (Nat.lt_of_lt_of_eq hi hl)).1⟩, by dsimp only; omega, by dsimp only; omega, fun i hi => ⟨(hj i (Nat.lt_of_lt_of_eq hi hl)).2.1, (hj i (Nat.lt_of_lt_of_eq hi hl)).2.2.1⟩, fun i hi => (hj i (Nat.lt_of_lt_of_eq hi hl)).2.2.2⟩, ok.mono (by omega)⟩)
end Go.Proofs.Ytndobgodeicloaa
namespace Go.Nm
theorem noteV_other {f : Int → Option Note} {out : List Int} {i x : Int} (h0 : 0 ≤ i) (h1 : 0 ≤ x) (hne : i ≠ x) (d : Int) : (noteV f out i).getD x.toNat d = out.getD x.toNat d := by
  unfold noteV
  split
  · simp only [List.getD_eq_getElem?_getD, List.getElem?_set]
    rw [if_neg (by omega)]
  · rfl
theorem valStep_other {ws : List Work} {f : Int → Option Note} {out : List Int} {i x : Int} (h0 : 0 ≤ i) (h1 : 0 ≤ x) (hne : i ≠ x) (d : Int) : (valStep ws f out i).getD x.toNat d = out.getD x.toNat d := by
  unfold valStep
  split
  · exact noteV_other h0 h1 hne d
  · rw [← noteV_other (f := f) (out := out) h0 h1 hne d]
    simp only [List.getD_eq_getElem?_getD, List.getElem?_set]
    rw [if_neg (by omega)]
theorem valF_other {ws : List Work} {f : Int → Option Note} {x : Int} (h1 : 0 ≤ x) (d : Int) : ∀ (l out : List Int), (∀ y ∈ l, 0 ≤ y) → x ∉ l → (valF ws f l out).getD x.toNat d = out.getD x.toNat d
  | [], _, _, _ => rfl
  | i :: l, out, h0, hx => by
    rw [List.mem_cons, not_or] at hx
    show (valF ws f l (valStep ws f out i)).getD x.toNat d = _
    rw [valF_other h1 d l _ (fun y hy => h0 y (List.mem_cons_of_mem _ hy)) hx.2]
    exact valStep_other (h0 i (List.mem_cons_self ..)) h1 (fun e => hx.1 e.symm) d
theorem sumV_congr {a b : List Int} {base : Int} {of : List Int} (h : ∀ x ∈ of, a.getD x.toNat 0 = b.getD x.toNat 0) : ∀ j, j ≤ of.length → sumV a base of j = sumV b base of j
  | 0, _ => rfl
  | j + 1, hj => by
    simp only [sumV]
    rw [sumV_congr h j (by omega), h _ (getD_memN of (by omega) 0)]
/-- What a note says, or none. -/
def nv (o : Option Note) : Int := match o with | some n => n.value | none => -1
def nq (o : Option Note) : Int := match o with | some n => n.version | none => -1
theorem noteV_at {f : Int → Option Note} {out : List Int} {i : Int} (h0 : 0 ≤ i) (h1 : i < out.length) (hn : out.getD i.toNat 0 = -1) : (noteV f out i).getD i.toNat 0 = nv (f i) := by
  unfold noteV nv
  cases hf : f i with
  | none => simpa using hn
  | some n =>
    rw [if_pos (by simp), gset _ _ _ _ _ (by omega), if_pos rfl]
    simp
end Go.Nm
namespace Go.Nm
theorem newF_nv {l : List Note} (hr : rngB l = true) : ∀ k, (newF l k).isSome = true → 0 ≤ ((newF l k).getD default).value ∧ ((newF l k).getD default).value ≤ 1000002 := by
  intro k h
  have := newF_val (l := l) (by rw [hr]; rfl) l.length k
  rw [List.take_length] at this
  exact this h
end Go.Nm
namespace Go.Nm
variable {ws : List Work} {l e : List Note}
/-! ### Notes -/
def Uniq (l : List Note) : Prop := ∀ a ∈ l, ∀ b ∈ l, a.work = b.work → a.version = b.version → a = b
theorem Uniq.add {l l' : List Note} {n : Note} (h : Uniq l) (hm : ∀ a ∈ l', a ∈ l ∨ a = n) (hn : ∀ a ∈ l, ¬ (a.work = n.work ∧ a.version = n.version)) : Uniq l' := by
  intro a ha b hb h1 h2
  rcases hm a ha with ha | rfl <;> rcases hm b hb with hb | rfl
  · exact h a ha b hb h1 h2
  · exact absurd ⟨h1, h2⟩ (hn a ha)
  · exact absurd ⟨h1.symm, h2.symm⟩ (hn b hb)
  · rfl
structure NG (ws : List Work) (l : List Note) : Prop where
  few : l.length ≤ 200
  src : ∀ n ∈ l, 0 ≤ n.work ∧ n.work < (ws.length : Int) ∧ (ws.getD n.work.toNat default).of = []
  rng : ∀ n ∈ l, 0 ≤ n.version ∧ n.version ≤ 1000000 ∧ 0 ≤ n.value ∧ n.value ≤ 1000002
  uniq : Uniq l
theorem NG.arg (h : NG ws l) : argB ws l = true := by
  unfold argB
  rw [List.all_eq_true]
  intro n hn
  obtain ⟨h1, h2, h3⟩ := h.src n hn
  rw [h3]
  unfold inB
  simp only [Bool.and_eq_true, decide_eq_true_eq, List.length_nil]
  exact ⟨⟨h1, by omega⟩, rfl⟩
theorem NG.rg (h : NG ws l) : rngB l = true := by
  unfold rngB
  rw [List.all_eq_true]
  intro n hn
  obtain ⟨h1, h2, h3, h4⟩ := h.rng n hn
  unfold inB
  simp only [Bool.and_eq_true, decide_eq_true_eq]
  exact ⟨⟨h1, h2⟩, h3, h4⟩
theorem NG.tw (h : NG ws l) : (List.range l.length).any (twAt l) = false := by
  rw [List.any_eq_false]
  intro i hi ht
  have hi := List.mem_range.1 hi
  unfold twAt at ht
  obtain ⟨m, hm, hp⟩ := List.any_eq_true.1 ht
  have hb := getD_memN l (by omega : (i : Int) < _) default
  have ha := List.mem_of_mem_take hm
  unfold twP at hp
  simp only [Bool.and_eq_true, beq_iff_eq, Bool.not_eq_true', decide_eq_false_iff_not] at hp
  exact hp.2 (h.uniq m ha _ hb hp.1.1 hp.1.2)
theorem NG.err (h : NG ws l) (hO : openedE ws = 0) : valuesE ws l = 0 := by
  have := h.few
  unfold valuesE
  rw [if_neg (by simp [hO]), if_neg (by omega), h.arg, h.rg, h.tw]
  rfl
theorem NG.vals (h : NG ws l) (hO : openedE ws = 0) : valuesR ws l = valL ws l := by
  unfold valuesR
  rw [if_pos (h.err hO)]
theorem newF_some : ∀ (l : List Note) (f : Int → Option Note) (i : Int), ((f i).isSome = true ∨ ∃ n ∈ l, n.work = i) → (l.foldl newStep f i).isSome = true
  | [], f, i, h => by
    rcases h with h | ⟨n, hn, _⟩
    · exact h
    · simp at hn
  | m :: l, f, i, h => by
    refine newF_some l (newStep f m) i ?_
    have keep : (f i).isSome = true → (newStep f m i).isSome = true := by
      intro h
      unfold newStep
      split
      · unfold updF
        split
        · rfl
        · exact h
      · exact h
    rcases h with h | ⟨n, hn, rfl⟩
    · exact .inl (keep h)
    · rcases List.mem_cons.1 hn with rfl | hn
      · left
        unfold newStep
        cases hf : (f n.work).isSome with
        | true =>
          split
          · simp [updF]
          · exact hf
        | false => simp [updF]
      · exact .inr ⟨n, hn, rfl⟩
theorem newF_foldl : ∀ (e : List Note) (f : Int → Option Note) (i : Int), (∀ n ∈ e, n.work ≠ i) → e.foldl newStep f i = f i
  | [], _, _, _ => rfl
  | m :: e, f, i, h => by
    simp only [List.foldl_cons]
    rw [newF_foldl e _ i (fun n hn => h n (by simp [hn]))]
    have hm := h m (by simp)
    unfold newStep
    split
    · unfold updF
      rw [if_neg (fun h => hm h.symm)]
    · rfl
theorem newF_app {i : Int} (h : ∀ n ∈ e, n.work ≠ i) : newF (l ++ e) i = newF l i := by
  unfold newF
  rw [List.foldl_append]
  exact newF_foldl e _ i h
/-! ### Values -/
theorem val_eq (hO : openedE ws = 0) (f : Int → Option Note) {i : Int} (h0 : 0 ≤ i) (h1 : i < ws.length) :
    (valF ws f (orderP ws) (List.replicate ws.length (-1))).getD i.toNat 0 =
      if (((ws.getD i.toNat default).of.length : Int) == 0) || !((ws.getD i.toNat default).of.all fun k => (valF ws f (orderP ws) (List.replicate ws.length (-1))).getD k.toNat 0 != -1) then nv (f i)
      else sumV (valF ws f (orderP ws) (List.replicate ws.length (-1))) (ws.getD i.toNat default).base (ws.getD i.toNat default).of (ws.getD i.toNat default).of.length % 1000003 := by
  have hm := order_all hO h0 h1
  obtain ⟨l1, l2, hs⟩ := List.append_of_mem hm
  have hg := order_good ws
  have hof : ∀ k ∈ (ws.getD i.toNat default).of, k ∈ l1 := by
    have := hg.2.2 l1.length (by rw [hs]; simp)
    rw [hs] at this
    rw [show (l1 ++ i :: l2).getD l1.length 0 = i from by rw [List.getD_eq_getElem?_getD, List.getElem?_append_right (Nat.le_refl _), Nat.sub_self]; rfl, List.take_left] at this
    exact this
  have hnd := hg.1
  rw [hs, List.nodup_append] at hnd
  have hi2 : i ∉ l2 := (List.nodup_cons.1 hnd.2.1).1
  have hi1 : i ∉ l1 := fun hm => hnd.2.2 i hm i (by simp) rfl
  have hpos : ∀ y ∈ orderP ws, 0 ≤ y := fun y hy => (hg.2.1 y hy).1
  have hp1 : ∀ y ∈ l1, 0 ≤ y := fun y hy => hpos y (by rw [hs]; simp [hy])
  have hp2 : ∀ y ∈ l2, 0 ≤ y := fun y hy => hpos y (by rw [hs]; simp [hy])
  have hl : (valF ws f l1 (List.replicate ws.length (-1))).length = ws.length := by rw [valF_len]; simp
  have hsplit : valF ws f (orderP ws) (List.replicate ws.length (-1)) = valF ws f l2 (valStep ws f (valF ws f l1 (List.replicate ws.length (-1))) i) := by
    unfold valF
    rw [hs, List.foldl_append]
    rfl
  have hz : (valF ws f l1 (List.replicate ws.length (-1))).getD i.toNat 0 = -1 := by
    rw [valF_other h0 0 l1 _ hp1 hi1, getD_el _ (by rw [List.length_replicate]; omega)]
    simp
  have hk : ∀ k ∈ (ws.getD i.toNat default).of, (noteV f (valF ws f l1 (List.replicate ws.length (-1))) i).getD k.toNat 0 = (valF ws f (orderP ws) (List.replicate ws.length (-1))).getD k.toNat 0 := by
    intro k hk
    have hk1 := hof k hk
    have hk0 := hp1 k hk1
    have hne : i ≠ k := fun e => hi1 (e ▸ hk1)
    have hk2 : k ∉ l2 := fun hm => hnd.2.2 k hk1 k (by simp [hm]) rfl
    rw [hsplit, valF_other hk0 0 l2 _ hp2 hk2, valStep_other h0 hk0 hne, noteV_other h0 hk0 hne]
  have hall : ((ws.getD i.toNat default).of.all fun k => (noteV f (valF ws f l1 (List.replicate ws.length (-1))) i).getD k.toNat 0 != -1) = ((ws.getD i.toNat default).of.all fun k => (valF ws f (orderP ws) (List.replicate ws.length (-1))).getD k.toNat 0 != -1) := by
    rw [Bool.eq_iff_iff, List.all_eq_true, List.all_eq_true]
    exact ⟨fun hh x hx => by rw [← hk x hx]; exact hh x hx, fun hh x hx => by rw [hk x hx]; exact hh x hx⟩
  have hsv := sumV_congr (base := (ws.getD i.toNat default).base) hk (ws.getD i.toNat default).of.length (Nat.le_refl _)
  rw [← hall, ← hsv]
  rw [hsplit, valF_other h0 0 l2 _ hp2 hi2]
  unfold valStep
  split
  · exact noteV_at h0 (by omega) hz
  · rw [gset _ _ _ _ _ (by rw [noteV_len]; omega), if_pos rfl]
theorem valL_len (ws : List Work) (l : List Note) : (valL ws l).length = ws.length := by unfold valL; rw [valF_len]; simp
/-- Each source has a note. -/
def Full (ws : List Work) (l : List Note) : Prop := ∀ i, i < ws.length → (ws.getD i default).of = [] → ∃ n ∈ l, n.work = (i : Int)
theorem val_known (hB : Built ws) (hN : NG ws l) (hF : Full ws l) : ∀ i, i < ws.length → 0 ≤ (valL ws l).getD i 0 ∧ (valL ws l).getD i 0 ≤ 1000002 := by
  intro i
  induction i using Nat.strongRecOn with
  | _ i ih =>
    intro hi
    have he := val_eq hB.opened (newF l) (i := (i : Int)) (by omega) (by omega)
    rw [Int.toNat_natCast] at he
    have he : (valL ws l).getD i 0 = _ := he
    rw [he]
    by_cases h0 : (ws.getD i default).of = []
    · rw [if_pos (by rw [h0]; rfl)]
      have hs := newF_some l (fun _ => none) (i : Int) (.inr (hF i hi h0))
      have hv := newF_nv hN.rg (i : Int) hs
      have hs : (newF l (i : Int)).isSome = true := hs
      revert hs hv
      cases newF l (i : Int) with
      | none => intro _ h; simp at h
      | some n => intro hv _; exact hv
    · have hk : ((ws.getD i default).of.all fun k => (valF ws (newF l) (orderP ws) (List.replicate ws.length (-1))).getD k.toNat 0 != -1) = true := by
        rw [List.all_eq_true]
        intro k hk
        have ha := (hB.at_ i hi).ahead k hk
        have := ih k.toNat (by omega) (by omega)
        have h2 : 0 ≤ (valF ws (newF l) (orderP ws) (List.replicate ws.length (-1))).getD k.toNat 0 := this.1
        simp only [bne_iff_ne, ne_eq]
        omega
      have hz : (((ws.getD i default).of.length : Int) == 0) = false := by
        cases hc : (ws.getD i default).of with
        | nil => exact absurd hc h0
        | cons a b => simp; omega
      rw [if_neg (by rw [hk, hz]; decide)]
      omega
/-- What is not stale keeps its value. -/
theorem val_same (hB : Built ws) {rev : List Int} (he : ∀ n ∈ e, n.work ∈ rev) : ∀ i, i < ws.length → (staleL ws rev).getD i false = false → (valL ws (l ++ e)).getD i 0 = (valL ws l).getD i 0 := by
  intro i
  induction i using Nat.strongRecOn with
  | _ i ih =>
    intro hi hs
    have h1 := val_eq hB.opened (newF (l ++ e)) (i := (i : Int)) (by omega) (by omega)
    have h2 := val_eq hB.opened (newF l) (i := (i : Int)) (by omega) (by omega)
    rw [Int.toNat_natCast] at h1 h2
    have h1 : (valL ws (l ++ e)).getD i 0 = _ := h1
    have h2 : (valL ws l).getD i 0 = _ := h2
    have hst := stale_eq hB.opened rev (i := (i : Int)) (by omega) (by omega)
    rw [Int.toNat_natCast, hs] at hst
    have hst := hst.symm
    rw [Bool.or_eq_false_iff] at hst
    have hir : (i : Int) ∉ rev := by simpa using hst.1
    have hno := List.any_eq_false.1 hst.2
    have hof : ∀ k ∈ (ws.getD i default).of, (valF ws (newF (l ++ e)) (orderP ws) (List.replicate ws.length (-1))).getD k.toNat 0 = (valF ws (newF l) (orderP ws) (List.replicate ws.length (-1))).getD k.toNat 0 := by
      intro k hk
      have ha := (hB.at_ i hi).ahead k hk
      exact ih k.toNat (by omega) (by omega) (by simpa using hno k hk)
    have hall : ((ws.getD i default).of.all fun k => (valF ws (newF (l ++ e)) (orderP ws) (List.replicate ws.length (-1))).getD k.toNat 0 != -1) = ((ws.getD i default).of.all fun k => (valF ws (newF l) (orderP ws) (List.replicate ws.length (-1))).getD k.toNat 0 != -1) := by
      rw [Bool.eq_iff_iff, List.all_eq_true, List.all_eq_true]
      exact ⟨fun hh x hx => by rw [← hof x hx]; exact hh x hx, fun hh x hx => by rw [hof x hx]; exact hh x hx⟩
    rw [h1, h2, hall, sumV_congr hof _ (Nat.le_refl _), newF_app (l := l) (e := e) (i := (i : Int)) (fun n hn e => hir (e ▸ he n hn))]
/-! ### Lists in order -/
theorem asc_of {l : List Int} (h : l.Pairwise (· < ·)) : AscTo l l.length := by
  intro j h1 h2
  rw [getD_el l (by omega) 0, getD_el l h2 0]
  exact List.pairwise_iff_getElem.1 h (j - 1) j (by omega) h2 (by omega)
theorem listed_of {n : Nat} {l : List Int} (h : ∀ x ∈ l, 0 ≤ x ∧ x < (n : Int)) (ha : l.Pairwise (· < ·)) : listedE n l = 0 := by
  unfold listedE
  rw [if_neg, if_pos (asc_of ha)]
  rw [Bool.not_eq_true, Bool.not_eq_false', List.all_eq_true]
  intro x hx
  have := h x hx
  unfold inB
  simp only [Bool.and_eq_true, decide_eq_true_eq]
  omega
/-! ### Publications -/
theorem range_map_getD {α : Type} (l : List α) (d : α) : (List.range l.length).map (fun j => l.getD j d) = l := by
  refine List.ext_getElem (by simp) fun i h1 h2 => ?_
  simp only [List.getElem_map, List.getElem_range]
  exact getD_el l h2 d
end Go.Nm
namespace Go.Nm
structure NtOk (ws : List Work) (s : Nat) (l6 l7 : List Note) : Prop where
  src : ∀ n ∈ l6 ++ l7, 0 ≤ n.work ∧ n.work < (s : Int) ∧ (ws.getD n.work.toNat default).of = []
  rng : ∀ n ∈ l6 ++ l7, 0 ≤ n.version ∧ n.version ≤ 8 ∧ 0 ≤ n.value ∧ n.value < 2000
  uniq : Uniq (l6 ++ l7)
  all : ∀ i, i < s → (ws.getD i default).of = [] → ∃ n ∈ l6, n.work = (i : Int)
  len6 : l6.length ≤ s
  len7 : l7.length ≤ 8 * s
theorem NtOk.next {ws : List Work} {s : Nat} {l6 l7 : List Note} (h : NtOk ws s l6 l7) (hs : (ws.getD s default).of ≠ []) : NtOk ws (s + 1) l6 l7 :=
  ⟨fun n hn => by have := h.src n hn; exact ⟨this.1, by omega, this.2.2⟩, h.rng, h.uniq, fun i hi he => by
    by_cases e : i = s
    · subst e; exact absurd he hs
    · exact h.all i (by omega) he, by have := h.len6; omega, by have := h.len7; omega⟩
/-- Old notes of one source, up to a version. -/
structure OldOk (ws : List Work) (s v : Nat) (n0 : Note) (l6 l7 l : List Note) : Prop where
  src : ∀ b ∈ l, b ∈ l7 ∨ (b.work = (s : Int) ∧ 0 ≤ b.version ∧ b.version < (v : Int) ∧ 0 ≤ b.value ∧ b.value < 2000)
  uniq : Uniq ((l6 ++ [n0]) ++ l)
  len : l.length ≤ l7.length + v
theorem NtOk.start {ws : List Work} {s : Nat} {l6 l7 : List Note} (h : NtOk ws s l6 l7) {n0 : Note} (hw : n0.work = (s : Int)) : OldOk ws s 0 n0 l6 l7 l7 := by
  refine ⟨fun b hb => .inl hb, ?_, Nat.le_refl _⟩
  refine h.uniq.add (n := n0) (fun a ha => ?_) (fun a ha hh => ?_)
  · simp only [List.mem_append, List.mem_cons, List.not_mem_nil, or_false] at ha ⊢
    rcases ha with (ha | ha) | ha
    · exact .inl (.inl ha)
    · exact .inr ha
    · exact .inl (.inr ha)
  · have := h.src a ha
    rw [hw] at hh
    omega
theorem OldOk.skip {ws : List Work} {s v : Nat} {n0 : Note} {l6 l7 l : List Note} (h : OldOk ws s v n0 l6 l7 l) : OldOk ws s (v + 1) n0 l6 l7 l :=
  ⟨fun b hb => (h.src b hb).imp id fun x => ⟨x.1, x.2.1, by omega, x.2.2.2⟩, h.uniq, by have := h.len; omega⟩
theorem OldOk.put {ws : List Work} {s v : Nat} {n0 : Note} {l6 l7 l : List Note} (hN : NtOk ws s l6 l7) (h : OldOk ws s v n0 l6 l7 l) (hv : (v : Int) < n0.version) {z : Int} (z0 : 0 ≤ z) (z1 : z < 2000) :
    OldOk ws s (v + 1) n0 l6 l7 (l ++ [⟨(s : Int), (v : Int), z⟩]) := by
  refine ⟨fun b hb => ?_, ?_, by have := h.len; simp only [List.length_append, List.length_cons, List.length_nil]; omega⟩
  · rcases List.mem_append.1 hb with hb | hb
    · exact h.skip.src b hb
    · rw [List.mem_singleton] at hb
      subst hb
      exact .inr ⟨rfl, by dsimp only; omega, by dsimp only; omega, z0, z1⟩
  · refine h.uniq.add (n := ⟨(s : Int), (v : Int), z⟩) (fun a ha => ?_) (fun a ha hh => ?_)
    · rw [← List.append_assoc, List.mem_append, List.mem_singleton] at ha
      exact ha
    · dsimp only at hh
      simp only [List.mem_append, List.mem_cons, List.not_mem_nil, or_false] at ha
      rcases ha with (ha | ha) | ha
      · have := hN.src a (List.mem_append_left _ ha); omega
      · subst ha; omega
      · rcases h.src a ha with ha | ha
        · have := hN.src a (List.mem_append_right _ ha); omega
        · omega
theorem OldOk.done {ws : List Work} {s v : Nat} {n0 : Note} {l6 l7 l : List Note} (hN : NtOk ws s l6 l7) (h : OldOk ws s v n0 l6 l7 l) (hw : n0.work = (s : Int)) (hs : (ws.getD s default).of = [])
    (hv : 0 ≤ n0.version ∧ n0.version ≤ 8 ∧ 0 ≤ n0.value ∧ n0.value < 2000) (hv8 : (v : Int) ≤ 8) : NtOk ws (s + 1) (l6 ++ [n0]) l := by
  have hm : ∀ n ∈ (l6 ++ [n0]) ++ l, n ∈ l6 ++ l7 ∨ n = n0 ∨ (n.work = (s : Int) ∧ 0 ≤ n.version ∧ n.version < (v : Int) ∧ 0 ≤ n.value ∧ n.value < 2000) := by
    intro n hn
    simp only [List.mem_append, List.mem_cons, List.not_mem_nil, or_false] at hn ⊢
    rcases hn with (hn | hn) | hn
    · exact .inl (.inl hn)
    · exact .inr (.inl hn)
    · rcases h.src n hn with h1 | h1
      · exact .inl (.inr h1)
      · exact .inr (.inr h1)
  refine ⟨fun n hn => ?_, fun n hn => ?_, h.uniq, fun i hi he => ?_, ?_, ?_⟩
  · rcases hm n hn with h1 | h1 | h1
    · have := hN.src n h1; exact ⟨this.1, by omega, this.2.2⟩
    · subst h1; rw [hw]; exact ⟨by omega, by omega, by rw [Int.toNat_natCast]; exact hs⟩
    · rw [h1.1]; exact ⟨by omega, by omega, by rw [Int.toNat_natCast]; exact hs⟩
  · rcases hm n hn with h1 | h1 | h1
    · exact hN.rng n h1
    · subst h1; exact hv
    · omega
  · by_cases e : i = s
    · exact ⟨n0, by simp, by rw [hw, e]⟩
    · obtain ⟨n, h1, h2⟩ := hN.all i (by omega) he
      exact ⟨n, List.mem_append_left _ h1, h2⟩
  · have := hN.len6; simp only [List.length_append, List.length_cons, List.length_nil]; omega
  · have := hN.len7; have := h.len; omega
theorem NtOk.ng {ws : List Work} {l6 l7 : List Note} (h : NtOk ws ws.length l6 l7) (hl : ws.length ≤ 20) : NG ws (l6 ++ l7) :=
  ⟨by have := h.len6; have := h.len7; rw [List.length_append]; omega, h.src, fun n hn => by have := h.rng n hn; omega, h.uniq⟩
theorem NtOk.full {ws : List Work} {l6 l7 : List Note} (h : NtOk ws ws.length l6 l7) : Full ws (l6 ++ l7) := fun i hi he => by
  obtain ⟨n, h1, h2⟩ := h.all i hi he
  exact ⟨n, List.mem_append_left _ h1, h2⟩
theorem set_perm (l : List Int) {i j : Nat} (hi : i < l.length) (hj : j < l.length) : ((l.set i (l.getD j 0)).set j (l.getD i 0)).Perm l := by
  rw [getD_el l hi 0, getD_el l hj 0]
  exact List.set_set_perm hi hj
/-- The numbers from 0 to n - 1. -/
def upto (n : Nat) : List Int := (List.range n).map fun j : Nat => (j : Int)
theorem upto_succ (n : Nat) : upto (n + 1) = upto n ++ [(n : Int)] := by
  unfold upto
  rw [List.range_succ, List.map_append]
  rfl
theorem perm_rng {l : List Int} {n : Nat} (h : l.Perm (upto n)) : l.length = n ∧ ∀ x ∈ l, 0 ≤ x ∧ x < (n : Int) := by
  refine ⟨by rw [h.length_eq]; simp [upto], fun x hx => ?_⟩
  have := h.mem_iff.1 hx
  unfold upto at this
  obtain ⟨j, hj, rfl⟩ := List.mem_map.1 this
  have := List.mem_range.1 hj
  omega
end Go.Nm
namespace Go.Proofs.Ytndobgodeicloaa
open Go Go.Nm
variable {ws : List Work}
theorem noted_old {b : List UInt8} {c u x : Int} (h : SOk c u x) (hc : c ≤ 1000000000) {s : Nat} {r z : Int} {l6 l7 : List Note} (hN : NtOk ws s l6 l7) (hl : s ≤ 100) (hr : 0 ≤ r ∧ r ≤ 8) :
    (M.iter (m_nilometerlaw13_Noted_b2 b s r) (u, x, 0, l7)).Out (fun y => SOk (c + 20) y.1 y.2.1 ∧ OldOk ws s r.toNat ⟨(s : Int), r, z⟩ l6 l7 y.2.2.2) := by
  refine M.o_for r.toNat (fun i st => st.2.2.1 = i ∧ SOk (c + 2 * (i : Int)) st.1 st.2.1 ∧ OldOk ws s i ⟨(s : Int), r, z⟩ l6 l7 st.2.2.2) ?_ ?_ (s := (u, x, 0, l7)) ⟨rfl, h.mono (by omega), hN.start rfl⟩
  · rintro i ⟨u, x, j, l⟩ hi ⟨rfl, ok, ho⟩
    dsimp only at hi ok ho ⊢
    have h7 := hN.len7
    have ho7 := ho.len
    simp only [m_nilometerlaw13_Noted_b2]
    refine M.o_t (by simp; omega) (M.o_bind (next_out ok (by omega) (by omega)) ?_)
    rintro ⟨r4, u4, x4⟩ ⟨ok4, _, _⟩
    dsimp only at ok4 ⊢
    refine M.o_if (fun hb => ?_) (fun hb => ?_)
    · refine M.o_bind (next_out ok4 (by omega) (by omega)) ?_
      rintro ⟨r5, u5, x5⟩ ⟨ok5, l5, _⟩
      dsimp only at ok5 l5 ⊢
      have l5 := l5 (by omega)
      exact M.o_grdD (by simp only [List.length_cons, List.length_nil]; omega) (M.o_grd (gA2 (by omega) (by omega)) (M.o_pure ⟨rfl, ok5.mono (by omega), ho.put hN (by dsimp only; omega) l5.1 l5.2⟩))
    · exact M.o_grd (gA2 (by omega) (by omega)) (M.o_pure ⟨rfl, ok4.mono (by omega), ho.skip⟩)
  · rintro ⟨u, x, j, l⟩ ⟨rfl, ok, ho⟩
    dsimp only at ok ho ⊢
    simp only [m_nilometerlaw13_Noted_b2]
    exact M.o_f (by simp; omega) (M.o_pure ⟨ok.mono (by omega), ho⟩)
theorem noted_out {b : List UInt8} {c u x : Int} (h : SOk c u x) (hc : c ≤ 100000000) (hw : ws.length ≤ 30) :
    (m_nilometerlaw13_Noted b u x ws).Out (fun y => (∃ l6 l7, y.1 = l6 ++ l7 ∧ NtOk ws ws.length l6 l7) ∧ SOk (c + 1000) y.2.1 y.2.2) := by
  unfold m_nilometerlaw13_Noted
  refine M.o_bind (P := fun y => NtOk ws ws.length y.2.2.2.1 y.2.2.1 ∧ SOk (c + 1000) y.2.2.2.2.1 y.2.2.2.2.2) ?_ ?_
  · refine M.o_for ws.length (fun i st => st.1 = i ∧ SOk (c + 30 * (i : Int)) st.2.1 st.2.2.1 ∧ NtOk ws i st.2.2.2.1 st.2.2.2.2) ?_ ?_ (s := (0, u, x, [], [])) ⟨rfl, h.mono (by omega), ⟨by simp, by simp, fun a ha => by simp at ha, fun i hi => by omega, by simp, by simp⟩⟩
    · rintro i ⟨j, u, x, l6, l7⟩ hi ⟨rfl, ok, hN⟩
      dsimp only at hi ok hN ⊢
      simp only [m_nilometerlaw13_Noted_b3]
      refine M.o_t (by simpa using hi) (M.o_grdD (by omega) (M.o_if (fun hb => ?_) (fun hb => ?_)))
      · exact M.o_pure ⟨rfl, ok.mono (by omega), hN.next (fun e => by rw [e] at hb; simp at hb)⟩
      · have he : (ws.getD j default).of = [] := by
          simp only [decide_eq_false_iff_not] at hb
          exact List.eq_nil_of_length_eq_zero (by omega)
        refine M.o_bind (next_out ok (by omega) (by omega)) ?_
        rintro ⟨r2, u2, x2⟩ ⟨ok2, l2, _⟩
        dsimp only at ok2 l2 ⊢
        have l2 := l2 (by omega)
        refine M.o_bind (next_out ok2 (by omega) (by omega)) ?_
        rintro ⟨r3, u3, x3⟩ ⟨ok3, l3, _⟩
        dsimp only at ok3 l3 ⊢
        have l3 := l3 (by omega)
        have h6 := hN.len6
        refine M.o_grdD (by simp only [List.length_cons, List.length_nil]; omega) (M.o_bind (noted_old (z := r3) ok3 (by omega) hN (by omega) (by omega)) ?_)
        rintro ⟨u5, x5, la, lo⟩ ⟨ok5, ho⟩
        dsimp only at ok5 ho ⊢
        exact M.o_pure ⟨rfl, ok5.mono (by omega), ho.done hN rfl he ⟨l2.1, by dsimp only; omega, l3.1, l3.2⟩ (by omega)⟩
    · rintro ⟨j, u, x, l6, l7⟩ ⟨rfl, ok, hN⟩
      dsimp only at ok hN ⊢
      simp only [m_nilometerlaw13_Noted_b3]
      exact M.o_f (by simp) (M.o_pure ⟨hN, ok.mono (by omega)⟩)
  · rintro ⟨l8, l9, l10, l11, u, x⟩ ⟨hN, ok⟩
    dsimp only at hN ok ⊢
    have := hN.len6
    have := hN.len7
    exact M.o_grdD (by omega) (M.o_pure ⟨⟨l11, l10, rfl, hN⟩, ok⟩)
theorem mixed_out {b : List UInt8} {c u x : Int} (h : SOk c u x) (hc : c ≤ 100000000) {n : Nat} (hn : n ≤ 10000) :
    (m_nilometerkit_Mixed b u x (n : Int)).Out (fun y => y.1.Perm (upto n) ∧ SOk (c + n) y.2.1 y.2.2) := by
  unfold m_nilometerkit_Mixed
  refine M.o_bind (P := fun y => y.2.1.Perm (upto n) ∧ SOk (c + n) y.2.2.1 y.2.2.2) ?_ (fun y hy => M.o_pure hy)
  refine M.o_for n (fun i st => st.2.2.1 = i ∧ SOk (c + (i : Int)) st.1 st.2.1 ∧ st.2.2.2.Perm (upto i)) ?_ ?_ (s := (u, x, 0, [])) ⟨rfl, h.mono (by omega), List.Perm.refl _⟩
  · rintro i ⟨u, x, j, l⟩ hi ⟨rfl, ok, hp⟩
    dsimp only at hi ok hp ⊢
    have hl := (perm_rng hp).1
    simp only [m_nilometerkit_Mixed_b0]
    refine M.o_t (by simpa using hi) (M.o_grd (gA2 (by omega) (by omega)) (M.o_bind (next_out ok (by omega) (by omega)) ?_))
    rintro ⟨r, u', x'⟩ ⟨ok', lt, _⟩
    dsimp only at ok' lt ⊢
    have lt := lt (by omega)
    have hl2 : (l ++ [(j : Int)]).length = j + 1 := by simp [hl]
    refine M.o_grdD (by simp only [List.length_cons, List.length_nil]; omega) (M.o_grd (gA2 lt.1 (by omega)) (M.o_grdD (by omega) (M.o_grd (gA2 lt.1 (by rw [List.length_set]; omega)) (M.o_pure ⟨rfl, ok'.mono (by omega), ?_⟩))))
    dsimp only
    rw [upto_succ]
    exact (set_perm _ (by omega) (by omega)).trans (List.Perm.append_right _ hp)
  · rintro ⟨u, x, j, l⟩ ⟨rfl, ok, hp⟩
    dsimp only at ok hp ⊢
    simp only [m_nilometerkit_Mixed_b0]
    exact M.o_f (by simp) (M.o_pure ⟨hp, ok⟩)
end Go.Proofs.Ytndobgodeicloaa
namespace Go.Proofs.Ytndobgodeicloaa
open Go Go.Nm
variable {ws : List Work} {rev f : List Int}
/-! ### Fences -/
theorem containsFunc_ends {s : List Int} {f : Int → M Bool} {p : Int → Bool} (hf : ∀ x ∈ s, (f x).Ends (p x)) : (m_slices_ContainsFunc_int s f).Ends (s.any p) := by
  have key : ∃ r, (m_slices_IndexFunc_int s f).Ends r ∧ decide (0 ≤ r) = s.any p := by
    have h := M.i_loopQ (body := m_slices_IndexFunc_int_b0 s f) (fun r => match r with | .inl k => 0 ≤ k ∧ s.any p = true | .inr _ => s.any p = false)
      (fun m i => m = s.length - i ∧ i ≤ s.length ∧ (s.take i).any p = false) (by
        rintro m i ⟨rfl, hi, ha⟩
        simp only [m_slices_IndexFunc_int_b0]
        by_cases e : i < s.length
        · have hp := hf _ (getD_memN s (by omega : (i : Int) < _) 0)
          cases hc : p (s.getD i 0) with
          | true =>
            rw [hc] at hp
            exact .inr ⟨.inl (i : Int), M.i_t (by simpa using e) (M.grdD (by omega) (M.i_bind hp M.i_pure)), by omega, List.any_eq_true.2 ⟨_, getD_memN s (by omega : (i : Int) < _) 0, hc⟩⟩
          | false =>
            rw [hc] at hp
            exact .inl ⟨i + 1, s.length - (i + 1), by omega, M.i_t (by simpa using e) (M.grdD (by omega) (M.i_bind hp M.i_pure)), rfl, e, by rw [any_take_succ p s e 0, ha, hc]; rfl⟩
        · obtain rfl : i = s.length := by omega
          rw [List.take_length] at ha
          exact .inr ⟨.inr (), M.i_f (by simp) M.i_pure, ha⟩) _ 0 ⟨rfl, Nat.zero_le _, by simp⟩
    obtain ⟨r, h1, h2⟩ := h
    cases r with
    | inl k => exact ⟨k, M.i_bind h1 M.i_pure, by rw [h2.2]; simpa using h2.1⟩
    | inr u => exact ⟨-1, M.i_bind h1 M.i_pure, by dsimp only at h2; rw [h2]; rfl⟩
  obtain ⟨r, h1, h2⟩ := key
  rw [← h2]
  exact M.i_bind h1 M.i_pure
theorem every_ends {s : List Int} {f : Int → M Bool} {p : Int → Bool} (hf : ∀ x ∈ s, (f x).Ends (p x)) : (m_notes_every_int f s).Ends (s.all p) := by
  have h := containsFunc_ends (s := s) (f := fun x => m_notes_every_int__1 x f) (p := fun x => !(p x)) (fun x hx => M.i_bind (hf x hx) M.i_pure)
  have e : s.all p = !(s.any fun x => !(p x)) := by rw [List.all_eq_not_any_not]
  rw [e]
  exact M.i_bind h M.i_pure
/-- Is a work that is made of one outside a list? -/
def leak (ws : List Work) (f : List Int) (x : Int) (j : Nat) : Bool := (ws.getD j default).of.contains x && !(f.contains (j : Int))
theorem made_ends (x : Int) : (m_notes_web_made_1 (M.yl (m_notes_Fences_b3 f)) (.inl ()) ws x).Ends (if (List.range ws.length).any (leak ws f x) then .inr () else .inl ()) := by
  have h := M.i_loopQ (body := m_notes_web_made_1_b0 (M.yl (m_notes_Fences_b3 f)) ws x) (fun r => match r with | .inl t => t = .inr () ∧ (List.range ws.length).any (leak ws f x) = true | .inr t => t = .inl () ∧ (List.range ws.length).any (leak ws f x) = false)
    (fun m s => m = ws.length - s.1 ∧ s.1 ≤ ws.length ∧ s.2 = .inl () ∧ (List.range s.1).any (leak ws f x) = false) (by
      rintro m ⟨i, t⟩ ⟨rfl, hi, ht, ha⟩
      dsimp only at hi ht ha ⊢
      subst ht
      simp only [m_notes_web_made_1_b0]
      by_cases e : i < ws.length
      · have ho : (m_notes_web_of ws (i : Int) x).Ends ((ws.getD i default).of.contains x) := by
          have := (M.i_grd (k := M.pure (((ws.getD (Int.toNat (i : Int)) default).of).contains x)) (gA2 (p := (0 : Int) ≤ (i : Int)) (q := (i : Int) < (ws.length : Int)) (by omega) (by omega)) M.i_pure)
          rw [Int.toNat_natCast] at this
          unfold m_notes_web_of
          rw [Int.toNat_natCast]
          exact this
        cases hc : (ws.getD i default).of.contains x with
        | true =>
          rw [hc] at ho
          cases hc2 : f.contains (i : Int) with
          | true =>
            have hy : (M.yl (m_notes_Fences_b3 f) (.inl ()) (i : Int)).Ends (true, .inl ()) := by
              simp only [M.yl, m_notes_Fences_b3, m_notes_Fences_1, hc2]
              exact M.i_bind (M.i_bind M.i_pure (M.i_f rfl M.i_pure)) M.i_pure
            exact .inl ⟨(i + 1, .inl ()), ws.length - (i + 1), by omega, M.i_t (by simpa using e) (M.i_bind ho (M.i_t rfl (M.i_bind hy (M.i_f rfl M.i_pure)))), rfl, e, rfl, by rw [any_range_succ, ha]; unfold leak; rw [hc, hc2]; rfl⟩
          | false =>
            have hy : (M.yl (m_notes_Fences_b3 f) (.inl ()) (i : Int)).Ends (false, .inr ()) := by
              simp only [M.yl, m_notes_Fences_b3, m_notes_Fences_1, hc2]
              exact M.i_bind (M.i_bind M.i_pure (M.i_t rfl M.i_pure)) M.i_pure
            exact .inr ⟨.inl (.inr ()), M.i_t (by simpa using e) (M.i_bind ho (M.i_t rfl (M.i_bind hy (M.i_t rfl M.i_pure)))), rfl, List.any_eq_true.2 ⟨i, List.mem_range.2 e, by unfold leak; rw [hc, hc2]; rfl⟩⟩
        | false =>
          rw [hc] at ho
          exact .inl ⟨(i + 1, .inl ()), ws.length - (i + 1), by omega, M.i_t (by simpa using e) (M.i_bind ho (M.i_f rfl (M.i_f rfl M.i_pure))), rfl, e, rfl, by rw [any_range_succ, ha]; unfold leak; rw [hc]; rfl⟩
      · obtain rfl : i = ws.length := by omega
        exact .inr ⟨.inr (.inl ()), M.i_f (by simp) M.i_pure, rfl, ha⟩) _ (0, .inl ()) ⟨rfl, Nat.zero_le _, rfl, by simp⟩
  obtain ⟨r, h1, h2⟩ := h
  unfold m_notes_web_made_1
  cases r with
  | inl t =>
    obtain ⟨h3, h4⟩ := h2
    subst h3
    rw [h4]
    exact M.i_bind h1 M.i_pure
  | inr t =>
    obtain ⟨h3, h4⟩ := h2
    subst h3
    rw [h4]
    exact M.i_bind h1 M.i_pure
theorem closed_leak : closedB ws f = !((List.range f.length).any fun s => (List.range ws.length).any (leak ws f (f.getD s 0))) := by
  have e : ∀ {a b : Bool}, (a = true ↔ b = false) → a = !b := fun {a b} h => by cases a <;> cases b <;> simp_all
  refine e ?_
  unfold closedB
  rw [List.all_eq_true, List.any_eq_false]
  constructor
  · intro h s hs hh
    obtain ⟨j, hj, hl⟩ := List.any_eq_true.1 hh
    have h1 := List.all_eq_true.1 (h j hj)
    unfold leak at hl
    rw [Bool.and_eq_true, List.contains_iff_mem] at hl
    have h2 := h1 _ hl.1
    have h3 : f.contains (f.getD s 0) = true := by
      rw [List.contains_iff_mem]
      exact getD_memN f (by have := List.mem_range.1 hs; omega) 0
    rw [h3] at h2
    have h4 := hl.2
    rw [Bool.not_eq_true'] at h4
    rw [h4] at h2
    cases h2
  · intro h i hi
    rw [List.all_eq_true]
    intro k hk
    cases hc : f.contains k with
    | false => rfl
    | true =>
      rw [List.contains_iff_mem] at hc
      obtain ⟨s, hs, he⟩ := mem_getD hc 0
      have h1 := h s (List.mem_range.2 hs)
      rw [Bool.not_eq_true, List.any_eq_false] at h1
      have h2 := h1 i hi
      unfold leak at h2
      rw [he] at h2
      have h3 : (ws.getD i default).of.contains k = true := by rw [List.contains_iff_mem]; exact hk
      rw [h3] at h2
      simpa using h2
theorem fences_no (h : fencesE ws rev f ≠ 0) : fencesR ws rev f = false := by unfold fencesR; rw [if_neg h]
theorem notesFences_ends (ws : List Work) (rev f : List Int) : (m_notes_Fences ws rev f).Ends (fencesR ws rev f, fencesE ws rev f) := by
  unfold m_notes_Fences
  by_cases h : askedE ws rev = 0
  · have e0 : fencesE ws rev f = listedE ws.length f := by unfold fencesE; rw [if_neg (by simp [h])]
    refine M.i_t (by simp [h]) (M.i_t rfl ?_)
    by_cases hL : listedE ws.length f = 0
    · have e1 : fencesR ws rev f = ((rev.all fun x => f.contains x) && closedB ws f) := by unfold fencesR; rw [if_pos (by rw [e0]; exact hL)]
      refine M.i_f (by simp [hL]) (M.i_bind (M.i_scan f.length (fun s => (List.range ws.length).any (leak ws f (f.getD s 0))) (fun i hi _ => ?_) (fun _ => ?_)) ?_)
      · simp only [m_notes_Fences_b4]
        refine M.i_t (by simpa using hi) (M.grdD (by omega) (M.i_bind (M.i_pure : (m_notes_web_made ws (f.getD i 0)).Ends (f.getD i 0)) (M.i_bind (made_ends _) ?_)))
        cases (List.range ws.length).any (leak ws f (f.getD i 0)) <;> exact M.i_pure
      · simp only [m_notes_Fences_b4]
        exact M.i_f (by simp) M.i_pure
      · rw [e0, e1, hL, closed_leak]
        cases (List.range f.length).any fun s => (List.range ws.length).any (leak ws f (f.getD s 0)) with
        | true => simp only [if_true, Bool.not_true, Bool.and_false]; exact M.i_pure
        | false =>
          simp only [Bool.false_eq_true, if_false, Bool.not_false, Bool.and_true]
          exact M.i_bind (every_ends (fun x _ => (M.i_pure : (m_notes_Fences_1 x f).Ends (f.contains x)))) M.i_pure
    · rw [fences_no (by rw [e0]; exact hL), e0]
      exact M.i_t (by simpa using hL) M.i_pure
  · have e0 : fencesE ws rev f = askedE ws rev := by unfold fencesE; rw [if_pos h]
    rw [fences_no (by rw [e0]; exact h), e0]
    exact M.i_f (by simpa using h) (M.i_f (by simpa using h) (M.i_t (by simpa using h) M.i_pure))
end Go.Proofs.Ytndobgodeicloaa
namespace Go.Nm
variable {ws : List Work} {rv f : List Int}
theorem closed_iff : closedB ws f = true ↔ ∀ i, i < ws.length → ∀ k ∈ (ws.getD i default).of, k ∈ f → (i : Int) ∈ f := by
  unfold closedB
  rw [List.all_eq_true]
  constructor
  · intro h i hi k hk hf
    have h1 := List.all_eq_true.1 (h i (List.mem_range.2 hi)) k hk
    have h2 : f.contains k = true := by rw [List.contains_iff_mem]; exact hf
    rw [h2] at h1
    have h3 : f.contains (i : Int) = true := by simpa using h1
    rwa [List.contains_iff_mem] at h3
  · intro h i hi
    rw [List.all_eq_true]
    intro k hk
    cases hc : f.contains k with
    | false => rfl
    | true =>
      rw [List.contains_iff_mem] at hc
      have := h i (List.mem_range.1 hi) k hk hc
      rw [← List.contains_iff_mem] at this
      rw [this]
      rfl
structure FenceW (ws : List Work) (rv f : List Int) : Prop where
  rev : ∀ x ∈ rv, x ∈ f
  cl : ∀ i, i < ws.length → ∀ k ∈ (ws.getD i default).of, k ∈ f → (i : Int) ∈ f
theorem fence_iff (hE : fencesE ws rv f = 0) : fencesR ws rv f = true ↔ FenceW ws rv f := by
  unfold fencesR
  rw [if_pos hE, Bool.and_eq_true, closed_iff, List.all_eq_true]
  constructor
  · rintro ⟨h1, h2⟩
    exact ⟨fun x hx => by have := h1 x hx; rwa [List.contains_iff_mem] at this, h2⟩
  · rintro ⟨h1, h2⟩
    exact ⟨fun x hx => by rw [List.contains_iff_mem]; exact h1 x hx, h2⟩
/-- A fence has all that is stale. -/
theorem FenceW.all (h : FenceW ws rv f) (hB : Built ws) : ∀ i, i < ws.length → (staleL ws rv).getD i false = true → (i : Int) ∈ f := by
  intro i
  induction i using Nat.strongRecOn with
  | _ i ih =>
    intro hi hs
    have he := stale_eq hB.opened rv (i := (i : Int)) (by omega) (by omega)
    rw [Int.toNat_natCast, hs] at he
    have he := he.symm
    rw [Bool.or_eq_true] at he
    rcases he with he | he
    · exact h.rev _ (by simpa using he)
    · obtain ⟨k, hk, hks⟩ := List.any_eq_true.1 he
      have ha := (hB.at_ i hi).ahead k hk
      have := ih k.toNat (by omega) (by omega) hks
      rw [Int.toNat_of_nonneg ha.1] at this
      exact h.cl i hi k hk this
theorem stale_fence (hO : openedE ws = 0) (hA : askedE ws rv = 0) : FenceW ws rv (staleR ws rv) := by
  have hl := (listed_rng (asked_ok hA).2).1
  refine ⟨fun x hx => ?_, fun i hi k hk hf => ?_⟩
  · have := hl x hx
    rw [staleL_mem hA]
    refine ⟨this.1, this.2, ?_⟩
    rw [stale_eq hO rv this.1 this.2]
    simp [hx]
  · rw [staleL_mem hA] at hf ⊢
    refine ⟨by omega, by omega, ?_⟩
    rw [stale_eq hO rv (by omega) (by omega), Bool.or_eq_true]
    exact .inr (List.any_eq_true.2 ⟨k, by simpa using hk, hf.2.2⟩)
theorem stT_asc (ws : List Work) (rv : List Int) (n : Nat) : (stT ws rv n).Pairwise (· < ·) := by
  unfold stT
  rw [List.pairwise_map]
  exact List.Pairwise.imp (fun h => by omega) (List.Pairwise.filter _ List.pairwise_lt_range)
theorem stale_asc (ws : List Work) (rv : List Int) : (staleR ws rv).Pairwise (· < ·) := by
  unfold staleR
  split
  · exact stT_asc ws rv _
  · simp
theorem stale_range (hA : askedE ws rv = 0) : ∀ x ∈ staleR ws rv, 0 ≤ x ∧ x < (ws.length : Int) := fun x hx => by
  have := (staleL_mem hA x).1 hx
  exact ⟨this.1, this.2.1⟩
end Go.Nm
namespace Go.Proofs.Ytndobgodeicloaa
open Go Go.Nm
variable {ws : List Work} {rv : List Int}
theorem fencesE_of (hA : askedE ws rv = 0) {f : List Int} (h : ∀ x ∈ f, 0 ≤ x ∧ x < (ws.length : Int)) (ha : f.Pairwise (· < ·)) : fencesE ws rv f = 0 := by
  unfold fencesE
  rw [if_neg (by simp [hA])]
  exact listed_of h ha
end Go.Proofs.Ytndobgodeicloaa
section
set_option maxRecDepth 100000
set_option maxHeartbeats 16000000
namespace Go.Proofs.Ytndobgodeicloaa
open Go Go.Nm
def m_nilometerlaw13_Revised_b0 (s_bytes : List UInt8) (w_ : List Work) : (Int × Int × Nat × (List Int)) → M ((Int × Int × Nat × (List Int)) ⊕ (Int × Int × (List Int) × (List Int))) := fun (s2, s3, s4, l) =>
  bif decide ((s4 : Int) < (w_.length : Int)) then (
  M.bind (m_nilometerkit_Stream_Next s_bytes s2 s3 4) fun (r2, q1, q2) =>
  bif r2 == 0 then (
  M.grd (decide ((l.length + ([(s4 : Int)]).length) * 8 ≤ 140737488355328)) <|
  M.pure (.inl (q1, q2, s4 + 1, l ++ ([(s4 : Int)]))))
  else (
  M.pure (.inl (q1, q2, s4 + 1, l))))
  else (
  M.pure (.inr (s2, s3, l, l)))
def m_nilometerlaw13_Revised (s_bytes : List UInt8) (s_used : Int) (s_mix : Int) (w_ : List Work) : M ((List Int) × Int × Int) :=
  M.bind (M.iter (m_nilometerlaw13_Revised_b0 s_bytes w_) (s_used, s_mix, 0, [])) fun (s5, s6, l2, l3) =>
  bif (l3.length : Int) == 0 then (
  M.bind (m_nilometerkit_Stream_Next s_bytes s5 s6 (w_.length : Int)) fun (r3, q12, q22) =>
  M.grd (decide ((l3.length + ([(r3 : Int)]).length) * 8 ≤ 140737488355328)) <|
  M.pure ((l3 ++ ([(r3 : Int)])), q12, q22))
  else (
  M.pure (l3, s5, s6))
def m_notes_Leads_1 (i : Int) (k02 : List Work) : M Bool :=
  M.pure (inB i 0 ((k02.length : Int) - 1))
theorem notes_Leads_1_ok {R : List Chunk} {b_k0 : Nat} {C_k02 : Cells} {v_k02 : Value} (i : Int) (k02 : List Work) (hC_k02 : Reads R C_k02) (hs_k02 : Sl C_k02 v_k02 k02) (h_b_k0 : Has R (cBlk b_k0 [v_k02] 22)) {r : Bool} (hM : (m_notes_Leads_1 i k02).Ends r) (w : World) (H : St w w [] R) : Ret Try.prog 106 #[I i, Pz b_k0] w fun v w' => ∃ (y0 : Bool), y0 = r ∧ v = B y0 ∧ St w w' [] R := by
 refine ret_of_W Try.func106 rfl rfl rfl ?_
 refine sQ rfl <| sA (B false) rfl <| s_nil <| sQ rfl <| sM (I i) rfl <| s_val (x_ld (p := Pz b_k0) (v := v_k02) rfl (ldb_sc Sc22 (h_b_k0.blk H) rfl)) ?_
 have hl1z := (hs_k02).len_le
 refine s_val (x_lenS T22.und rfl hs_k02) <| sR (k02.length : Int) 1 ((k02.length : Int) - 1) rfl rfl rfl (by omega) ?_
 refine s_call cf84 [I i, I 0, I ((k02.length : Int) - 1)] rfl (in_any i 0 ((k02.length : Int) - 1) _) ?_
 rintro _ w2z ⟨rfl, hx_⟩
 replace H : St w w2z [] R := H.ext hx_
 clear hx_
 refine sA (B (inB i 0 ((k02.length : Int) - 1))) rfl <| s_nil ?_
 refine W.ret ?_
 have hr_ := M.e_pure hM
 exact ⟨_, resE_tmp rfl, ⟨(inB i 0 ((k02.length : Int) - 1)), hr_, rfl, H⟩⟩

def m_notes_web_leads_b0 (w__list_works : List Work) (line_ : List Int) : Nat → M (Nat ⊕ (Unit ⊕ Unit)) := fun i =>
  bif decide ((i : Int) < (line_.length : Int)) then (
  M.grd (decide ((i : Int) < (line_.length : Int))) <|
  M.grd (decide ((-9223372036854775808 : Int) ≤ ((i : Int) - 1)) && decide (((i : Int) - 1) ≤ (9223372036854775807 : Int))) <|
  M.grd (decide ((0 : Int) ≤ ((i : Int) - 1)) && decide (((i : Int) - 1) < (line_.length : Int))) <|
  M.bind (m_notes_web_of w__list_works (line_.getD i 0) (line_.getD (Int.toNat ((i : Int) - 1)) 0)) fun r2 =>
  bif !r2 then (
  M.pure (.inr (.inl ())))
  else (
  M.pure (.inl (i + 1))))
  else (
  M.pure (.inr (.inr ())))
def m_notes_web_leads (w__list_works : List Work) (line_ : List Int) : M Bool :=
  M.bind (M.iter (m_notes_web_leads_b0 w__list_works line_) 1) fun x_ => match x_ with
  | (.inl (_ : Unit)) => (
  M.pure false)
  | (.inr (_ : Unit)) => (
  M.pure (decide (0 < (line_.length : Int))))
theorem notes_web_leads_ok {R : List Chunk} {b_w_ : Nat} {C_w__list_works : Cells} {v_w__list_works : Value} {C_line_ : Cells} {v_line_ : Value} (w__list_works : List Work) (line_ : List Int) (hC_w__list_works : Reads R C_w__list_works) (hs_w__list_works : Sl C_w__list_works v_w__list_works w__list_works) (h_b_w_ : Has R (cBlk b_w_ [v_w__list_works] 187)) (hC_line_ : Reads R C_line_) (hs_line_ : Sl C_line_ v_line_ line_) {r : Bool} (hM : (m_notes_web_leads w__list_works line_).Ends r) (w : World) (H : St w w [] R) : Ret Try.prog 107 #[Pz b_w_, v_line_] w fun v w' => ∃ (y0 : Bool), y0 = r ∧ v = B y0 ∧ St w w' [] R := by
 refine ret_of_W Try.func107 rfl rfl rfl ?_
 refine sQ rfl <| sA (B false) rfl <| s_nil <| sQ rfl <| sM (Pz b_w_) rfl <| s_val (x_mf (fs := [Pz b_w_]) (cs := []) rfl rfl) <| sA (.func (.func 149) #[Pz b_w_] #[]) rfl <| s_nil <| W.seq <| W.seq ?_
 refine W.region rfl <| sA (I 1) rfl <| s_nil <| W.block ?_
 obtain ⟨ex1z, hi2z, hk3z⟩ := M.e_bind hM
 obtain ⟨m0_, hi2z⟩ := M.e_iter hi2z
 refine W.loop (fun m σ W => ∃ (i : Nat) (ρ : Env), σ = upds ρ [(1, v_line_), (5, .func (.func 149) #[Pz b_w_] #[]), (6, I (i : Int))] ∧ M.iterN (m_notes_web_leads_b0 w__list_works line_) m i = some ex1z ∧ St w W [] R) ?_ ?_
 ·exact ⟨_, 1, _, upds_of _ _ ⟨rfl, rfl, rfl, trivial⟩, hi2z, H⟩
 rintro m6z σ w4z ⟨i, ρ, rfl, hI5z, H⟩
 obtain ⟨m7z, lt8z, x9z, hM, hN10z⟩ := M.e_iterN hI5z
 simp only [m_notes_web_leads_b0] at hM
 clear hI5z
 refine W.seq <| sQ rfl <| sM (I (i : Int)) rfl <| sM v_line_ rfl ?_
 have hl11z := (hs_line_).len_le
 refine s_val (x_lenS T34.und rfl hs_line_) <| sC (i : Int) (line_.length : Int) (decide ((i : Int) < (line_.length : Int))) rfl rfl rfl <| s_nil ?_
 refine W.cond (decide ((i : Int) < (line_.length : Int))) rfl (fun c12z => ?_) (fun c12z => ?_)
 ·replace hM := M.e_t hM c12z
  simp only [qz1, qz2, qz3, qz4, qz5, qz6, ne_eq, qz7] at c12z
  refine W.skip <| W.seq <| W.block <| W.seq ?_
  refine W.draw (fun W => St w W [] R) [(0, true), (1, true), (2, true), (3, true), (4, true), (5, true), (6, true), (7, true), (8, true), (9, true), (10, false), (11, true)] mixed (by decide +kernel) rfl ?_
  intro w13z hx_
  replace H : St w w13z [] R := H.ext hx_
  clear hx_
  refine ⟨(H.pick [] (by decide) rfl), ?_⟩
  refine d_q rfl (fun w' H => x_mv (v := .func (.func 149) #[Pz b_w_] #[]) rfl) ?_
  refine d_q rfl (fun w' H => x_mv (v := v_line_) rfl) ?_
  refine d_q rfl (fun w' H => x_mv (v := I (i : Int)) rfl) ?_
  obtain ⟨sd14z, hM⟩ := M.e_gd hM
  refine d_q rfl (fun w' H => x_ix (a := v_line_) (b := I (i : Int)) (v := vat v_line_ 1 (Int.toNat (i : Int))) rfl rfl (Sl.ix (α := Int) T34.und T34.size hs_line_ (by omega) (by omega))) ?_
  refine d_q rfl (fun w' H => x_ld (p := vat v_line_ 1 (Int.toNat (i : Int))) (v := I (line_.getD i 0)) rfl (ld_sc Sc3 (At.mono (Int_at hs_line_ (i := (i : Int)) (by omega) (by omega)) (hC_line_.at H)))) ?_
  refine d_q rfl (fun w' H => x_mv (v := v_line_) rfl) ?_
  refine d_q rfl (fun w' H => x_mv (v := I (i : Int)) rfl) ?_
  obtain ⟨sd15z, hM⟩ := M.e_gd hM
  refine d_q rfl (fun w' H => x_ari (a := (i : Int)) (b := 1) (r := (i : Int) - 1) rfl rfl rfl (by omega)) ?_
  obtain ⟨sd16z, hM⟩ := M.e_gd hM
  refine d_q rfl (fun w' H => x_ix (a := v_line_) (b := I ((i : Int) - 1)) (v := vat v_line_ 1 (Int.toNat ((i : Int) - 1))) rfl rfl (Sl.ix (α := Int) T34.und T34.size hs_line_ (by omega) (by omega))) ?_
  refine d_q rfl (fun w' H => x_ld (p := vat v_line_ 1 (Int.toNat ((i : Int) - 1))) (v := I (line_.getD (Int.toNat ((i : Int) - 1)) 0)) rfl (ld_sc Sc3 (At.mono (Int_at hs_line_ (i := (i : Int) - 1) (by omega) (by omega)) (hC_line_.at H)))) ?_
  refine d_l rfl ?_
  obtain ⟨r18z, hx17z, hM⟩ := M.e_bind hM
  refine s_callm (f := 149) (fs := [Pz b_w_]) rfl cf149 [I (line_.getD i 0), I (line_.getD (Int.toNat ((i : Int) - 1)) 0)] rfl (notes_web_of_ok w__list_works (line_.getD i 0) (line_.getD (Int.toNat ((i : Int) - 1)) 0) (hC_w__list_works.app _) hs_w__list_works (h_b_w_.app _) hx17z _ (St.give (T := []) H rfl)) ?_
  rintro vq w19z ⟨r2, hr20z, hvq, H2_⟩
  subst hr20z
  subst vq
  try dsimp only at hM
  replace H : St w w19z [] R := H.back H2_ rfl
  clear H2_
  refine s_nil ⟨(H.pick [] (by decide) rfl), ?_⟩
  refine d_q rfl (fun w' H => x_not (b := r2) rfl) ?_
  refine d_nil ?_
  refine W.cond (!r2) rfl (fun c21z => ?_) (fun c21z => ?_)
  ·replace hM := M.e_t hM c21z
   refine sQ rfl <| sA (B false) rfl <| s_nil ?_
   refine W.ret ?_
   have hX22z := M.e_inr hM hN10z
   subst hX22z
   replace hM := hk3z
   try dsimp only at hM
   have hr_ := M.e_pure hM
   exact ⟨_, resE_tmp rfl, ⟨false, hr_, rfl, H⟩⟩
  replace hM := M.e_f hM c21z
  refine W.skip <| W.region rfl <| sM (I (i : Int)) rfl <| sR (i : Int) 1 ((i : Int) + 1) rfl rfl rfl (by omega) <| sA (I ((i : Int) + 1)) rfl <| s_nil ?_
  exact ⟨m7z, lt8z, i + 1, _, upds_of _ _ ⟨rfl, rfl, rfl, trivial⟩, M.e_inl hM hN10z, H⟩
 replace hM := M.e_f hM c12z
 simp only [qz1, qz2, qz3, qz4, qz5, qz6, ne_eq, qz7] at c12z
 refine W.exit ?_
 have hX23z := M.e_inr hM hN10z
 subst hX23z
 replace hM := hk3z
 try dsimp only at hM
 refine sQ rfl <| sM v_line_ rfl ?_
 have hl24z := (hs_line_).len_le
 refine s_val (x_lenS T34.und rfl hs_line_) <| sC (line_.length : Int) 0 (decide (0 < (line_.length : Int))) rfl rfl rfl <| sA (B (decide (0 < (line_.length : Int)))) rfl <| s_nil ?_
 refine W.ret ?_
 have hr_ := M.e_pure hM
 exact ⟨_, resE_tmp rfl, ⟨(decide (0 < (line_.length : Int))), hr_, rfl, H⟩⟩

def m_notes_Leads (w_ : List Work) (line_ : List Int) : M (Bool × Int) :=
  bif (openedE w_ == 0) then (
  bif (0 : Int) != 0 then (M.fail) else (M.bind (m_notes_every_int (fun xqz => m_notes_Leads_1 xqz w_) line_) fun r2 =>
  bif !r2 then (
  M.pure (false, 2))
  else (
  M.bind (m_notes_web_leads w_ line_) fun r3 =>
  M.pure (r3, 0))))
  else (
  bif (openedE w_) != 0 then (
  M.pure (false, (openedE w_)))
  else (
  M.bind (m_notes_every_int (fun xqz => m_notes_Leads_1 xqz w_) line_) fun r2 =>
  bif !r2 then (
  M.pure (false, 2))
  else (
  M.fail)))
theorem notes_Leads_ok {R : List Chunk} {C_w_ : Cells} {v_w_ : Value} {C_line_ : Cells} {v_line_ : Value} (w_ : List Work) (line_ : List Int) (hC_w_ : Reads R C_w_) (hs_w_ : Sl C_w_ v_w_ w_) (hC_line_ : Reads R C_line_) (hs_line_ : Sl C_line_ v_line_ line_) {r : (Bool × Int)} (hM : (m_notes_Leads w_ line_).Ends r) (w : World) (H : St w w [] R) : Ret Try.prog 51 #[v_w_, v_line_] w fun v w' => ∃ (y0 : Bool) (y1 : Int), (y0, y1) = r ∧ v = .tuple #[B y0, I y1] ∧ St w w' [] R := by
 refine ret_of_W Try.func51 rfl rfl rfl ?_
 refine sQ rfl ?_
 refine t_box (v := v_w_) (cs := [v_w_]) H rfl (Sl.cells hs_w_) ?_
 intro b_1 w1z H
 refine sA (B false) rfl <| sA (I 0) rfl <| s_nil <| sQ rfl <| s_val (x_ld (p := Pz b_1) (v := v_w_) rfl (ldb_sc Sc22 (H.blk (k := 0) rfl) rfl)) ?_
 refine s_call cf81 [v_w_] rfl (opened_any _ (hs_w_.mono (hC_w_.at H))) ?_
 rintro _ w2z (⟨he_, rfl, hx_⟩ | ⟨he_, b_2, u3z, rfl, hn_, hs4z⟩)
 ·replace hM := M.e_f hM (by simpa using he_)
  replace H : St w w2z [cBlk b_1 [v_w_] 22] R := H.ext hx_
  clear hx_
  refine sM (.tuple #[.pointer none, .slice none 0 0, I (openedE w_)]) rfl <| sX [.pointer none, .slice none 0 0, I (openedE w_)] (.pointer none) rfl rfl <| sX [.pointer none, .slice none 0 0, I (openedE w_)] (.slice none 0 0) rfl rfl <| sX [.pointer none, .slice none 0 0, I (openedE w_)] (I (openedE w_)) rfl rfl <| sA (.pointer none) rfl <| sA (.slice none 0 0) rfl <| sA (I (openedE w_)) rfl <| s_nil <| W.seq <| W.block <| sQ rfl ?_
  refine sM (I (openedE w_)) rfl <| sC (openedE w_) 0 ((openedE w_) != 0) rfl rfl rfl <| sA (B ((openedE w_) != 0)) rfl <| s_nil ?_
  refine W.cond ((openedE w_) != 0) rfl (fun c5z => ?_) (fun c5z => ?_)
  ·replace hM := M.e_t hM c5z
   simp only [qz1, qz2, qz3, qz4, qz5, qz6, ne_eq, qz7] at c5z
   refine sQ rfl <| sM (I (openedE w_)) rfl <| sA (B false) rfl <| sA (I (openedE w_)) rfl <| s_nil ?_
   refine W.ret ?_
   have hr_ := M.e_pure hM
   exact ⟨_, resE_tmp2 rfl, ⟨false, (openedE w_), hr_, rfl, (H.pick [] (by decide) rfl)⟩⟩
  replace hM := M.e_f hM c5z
  simp only [qz1, qz2, qz3, qz4, qz5, qz6, ne_eq, qz7] at c5z
  refine sQ rfl <| s_val (x_mf (fs := []) (cs := [Pz b_1]) rfl rfl) <| sM v_line_ rfl ?_
  obtain ⟨r7z, hx6z, hM⟩ := M.e_bind hM
  refine s_call cf87 [.func (.func 106) #[] #[Pz b_1], v_line_] rfl (notes_every_int_ok (fun xqz => m_notes_Leads_1 xqz w_) line_ ⟨106, [Pz b_1], rfl, cf106, fun wqz Lqz Cqz vqz xqz bqz hsqz hCqz hAqz hpqz => by obtain rfl := Arg.int hAqz; exact (notes_Leads_1_ok xqz w_ (Reads.app (hC_w_.app _) _) hs_w_ (Has.app (Has.here (k := 0) rfl) _) hpqz wqz (St.refl hsqz)).mono fun vqz wqz ⟨yqz, hrqz, hvqz, Hqz⟩ => by subst hrqz; exact ⟨hvqz, Hqz⟩⟩ (hC_line_.app _) hs_line_ hx6z _ (St.give (T := [cBlk b_1 [v_w_] 22]) H rfl)) ?_
  rintro vq w8z ⟨r2, hr9z, hvq, H2_⟩
  subst hr9z
  subst vq
  try dsimp only at hM
  replace H : St w w8z [cBlk b_1 [v_w_] 22] R := H.back H2_ rfl
  clear H2_
  refine s_val (x_not (b := r2) rfl) <| sA (B (!r2)) rfl <| s_nil ?_
  refine W.cond (!r2) rfl (fun c10z => ?_) (fun c10z => ?_)
  ·replace hM := M.e_t hM c10z
   refine sQ rfl <| sA (B false) rfl <| sA (I 2) rfl <| s_nil ?_
   refine W.ret ?_
   have hr_ := M.e_pure hM
   exact ⟨_, resE_tmp2 rfl, ⟨false, 2, hr_, rfl, (H.pick [] (by decide) rfl)⟩⟩
  replace hM := M.e_f hM c10z
  refine W.skip <| sQ rfl <| sM (.pointer none) rfl <| sM v_line_ rfl ?_
  exact (M.e_fail hM).elim
 replace hM := M.e_t hM (by simpa using he_)
 obtain ⟨Bs_3, H2_, hs4z, hb_b_2⟩ := H.freshNB hn_ hs4z
 replace H : St w w2z [cRo Bs_3, cBlk b_1 [v_w_] 22] R := H2_
 clear H2_ hn_
 have hl_hs4z := hs4z.len_le
 refine sM (.tuple #[Pz b_2, u3z, I 0]) rfl <| sX [Pz b_2, u3z, I 0] (Pz b_2) rfl rfl <| sX [Pz b_2, u3z, I 0] u3z rfl rfl <| sX [Pz b_2, u3z, I 0] (I 0) rfl rfl <| sA (Pz b_2) rfl <| sA u3z rfl <| sA (I 0) rfl <| s_nil <| W.seq <| W.block <| sQ rfl ?_
 refine sM (I 0) rfl <| sC 0 0 ((0 : Int) != 0) rfl rfl rfl <| sA (B ((0 : Int) != 0)) rfl <| s_nil ?_
 refine W.cond ((0 : Int) != 0) rfl (fun c11z => ?_) (fun c11z => ?_)
 ·skip
  exact absurd c11z (by decide)
 skip
 replace hM := M.e_f hM c11z
 refine sQ rfl <| s_val (x_mf (fs := []) (cs := [Pz b_1]) rfl rfl) <| sM v_line_ rfl ?_
 obtain ⟨r13z, hx12z, hM⟩ := M.e_bind hM
 refine s_call cf87 [.func (.func 106) #[] #[Pz b_1], v_line_] rfl (notes_every_int_ok (fun xqz => m_notes_Leads_1 xqz w_) line_ ⟨106, [Pz b_1], rfl, cf106, fun wqz Lqz Cqz vqz xqz bqz hsqz hCqz hAqz hpqz => by obtain rfl := Arg.int hAqz; exact (notes_Leads_1_ok xqz w_ (Reads.app (hC_w_.app _) _) hs_w_ (Has.app (Has.here (k := 1) rfl) _) hpqz wqz (St.refl hsqz)).mono fun vqz wqz ⟨yqz, hrqz, hvqz, Hqz⟩ => by subst hrqz; exact ⟨hvqz, Hqz⟩⟩ (hC_line_.app _) hs_line_ hx12z _ (St.give (T := [cRo Bs_3, cBlk b_1 [v_w_] 22]) H rfl)) ?_
 rintro vq w14z ⟨r2, hr15z, hvq, H2_⟩
 subst hr15z
 subst vq
 try dsimp only at hM
 replace H : St w w14z [cRo Bs_3, cBlk b_1 [v_w_] 22] R := H.back H2_ rfl
 clear H2_
 refine s_val (x_not (b := r2) rfl) <| sA (B (!r2)) rfl <| s_nil ?_
 refine W.cond (!r2) rfl (fun c16z => ?_) (fun c16z => ?_)
 ·replace hM := M.e_t hM c16z
  refine sQ rfl <| sA (B false) rfl <| sA (I 2) rfl <| s_nil ?_
  refine W.ret ?_
  have hr_ := M.e_pure hM
  exact ⟨_, resE_tmp2 rfl, ⟨false, 2, hr_, rfl, (H.pick [] (by decide) rfl)⟩⟩
 replace hM := M.e_f hM c16z
 refine W.skip <| sQ rfl <| sM (Pz b_2) rfl <| sM v_line_ rfl ?_
 obtain ⟨r18z, hx17z, hM⟩ := M.e_bind hM
 refine s_call cf107 [Pz b_2, v_line_] rfl (notes_web_leads_ok w_ line_ (hC_w_.app _) hs_w_ (Has.ro (k := 0) rfl hb_b_2) (hC_line_.app _) hs_line_ hx17z _ (St.give (T := [cRo Bs_3, cBlk b_1 [v_w_] 22]) H rfl)) ?_
 rintro vq w19z ⟨r3, hr20z, hvq, H2_⟩
 subst hr20z
 subst vq
 try dsimp only at hM
 replace H : St w w19z [cRo Bs_3, cBlk b_1 [v_w_] 22] R := H.back H2_ rfl
 clear H2_
 refine sA (B r3) rfl <| sA (I 0) rfl <| s_nil ?_
 refine W.ret ?_
 have hr_ := M.e_pure hM
 exact ⟨_, resE_tmp2 rfl, ⟨r3, 0, hr_, rfl, (H.pick [] (by decide) rfl)⟩⟩

end Go.Proofs.Ytndobgodeicloaa
end
namespace Go.Nm
theorem M.i_scanF {b : Nat → M (Nat ⊕ (Unit ⊕ Unit))} (n i0 : Nat) (bad : Nat → Bool) (h0 : ∀ j < i0, bad j = false) (hi0 : i0 ≤ n) (hb : ∀ i, i0 ≤ i → i < n → (∀ j < i, bad j = false) → (b i).Ends (if bad i then .inr (.inl ()) else .inl (i + 1))) (he : (∀ j < n, bad j = false) → (b n).Ends (.inr (.inr ()))) :
    (M.iter b i0).Ends (if (List.range n).any bad then .inl () else .inr ()) := by
  have key : ∀ k i, n = i + k → i0 ≤ i → (∀ j < i, bad j = false) → (M.iter b i).Ends (if (List.range n).any bad then .inl () else .inr ()) := by
    intro k
    induction k with
    | zero =>
      intro i hi _ hj
      have hn : n = i := by omega
      rw [hn] at he ⊢
      have : (List.range i).any bad = false := List.any_eq_false.2 fun j hj' => by simp [hj j (List.mem_range.1 hj')]
      rw [this]
      exact M.i_stop (he hj)
    | succ k ih =>
      intro i hi hii hj
      have h1 := hb i hii (by omega) hj
      cases hc : bad i with
      | true =>
        rw [hc] at h1
        have : (List.range n).any bad = true := List.any_eq_true.2 ⟨i, List.mem_range.2 (by omega), hc⟩
        rw [this]
        exact M.i_stop h1
      | false =>
        rw [hc] at h1
        refine M.i_next h1 (ih (i + 1) (by omega) (by omega) fun j hj' => ?_)
        by_cases e : j = i
        · rw [e]; exact hc
        · exact hj j (by omega)
  exact key (n - i0) i0 (by omega) (Nat.le_refl _) h0
theorem lineB_at1 {ws : List Work} (l : List Int) : lineB ws l = !((List.range l.length).any fun i => decide (1 ≤ i) && !((ws.getD (l.getD i 0).toNat default).of.contains (l.getD (i - 1) 0))) := by
  rw [lineB_at]
  cases hl : l.length with
  | zero => rfl
  | succ n =>
    rw [List.range_succ_eq_map, List.any_cons, List.any_map, Nat.add_sub_cancel]
    rfl
end Go.Nm
namespace Go.Proofs.Ytndobgodeicloaa
open Go Go.Nm
variable {ws : List Work}
structure RevOk (ws : List Work) (rv : List Int) : Prop where
  some : rv ≠ []
  asc : rv.Pairwise (· < ·)
  lt : ∀ x ∈ rv, 0 ≤ x ∧ x < (ws.length : Int)
  few : rv.length ≤ ws.length
theorem RevOk.asked {rv : List Int} (h : RevOk ws rv) (hO : openedE ws = 0) : askedE ws rv = 0 := by rw [asked_list hO]; exact listed_of h.lt h.asc
theorem webOf_ends {i : Int} (h0 : 0 ≤ i) (h1 : i < ws.length) (x : Int) : (m_notes_web_of ws i x).Ends ((ws.getD i.toNat default).of.contains x) := by
  unfold m_notes_web_of
  exact M.i_grd (gA2 h0 h1) M.i_pure
theorem everyInt_ends {s : List Int} {f : Int → M Bool} {p : Int → Bool} (hf : ∀ x ∈ s, (f x).Ends (p x)) : (m_notes_every_int f s).Ends (s.all p) := by
  have key : ∃ r, (m_slices_IndexFunc_int s (fun x => m_notes_every_int__1 x f)).Ends r ∧ decide (0 ≤ r) = !(s.all p) := by
    have h := M.i_loopQ (body := m_slices_IndexFunc_int_b0 s (fun x => m_notes_every_int__1 x f)) (fun r => match r with | .inl k => 0 ≤ k ∧ s.all p = false | .inr _ => s.all p = true)
      (fun m i => m = s.length - i ∧ i ≤ s.length ∧ (s.take i).all p = true) (by
        rintro m i ⟨rfl, hi, ha⟩
        simp only [m_slices_IndexFunc_int_b0]
        by_cases e : i < s.length
        · have hp := M.i_bind (hf _ (getD_memN s (by omega : (i : Int) < _) 0)) (k := fun r2 => M.pure (!r2)) M.i_pure
          have hp : (m_notes_every_int__1 (s.getD i 0) f).Ends _ := hp
          cases hc : p (s.getD i 0) with
          | false =>
            rw [hc] at hp
            exact .inr ⟨.inl (i : Int), M.i_t (by simpa using e) (M.grdD (by omega) (M.i_bind hp M.i_pure)), by omega, List.all_eq_false.2 ⟨_, getD_memN s (by omega : (i : Int) < _) 0, by rw [hc]; decide⟩⟩
          | true =>
            rw [hc] at hp
            exact .inl ⟨i + 1, s.length - (i + 1), by omega, M.i_t (by simpa using e) (M.grdD (by omega) (M.i_bind hp M.i_pure)), rfl, e, by rw [all_take_succ p s e 0, ha, hc]; rfl⟩
        · obtain rfl : i = s.length := by omega
          rw [List.take_length] at ha
          exact .inr ⟨.inr (), M.i_f (by simp) M.i_pure, ha⟩) _ 0 ⟨rfl, Nat.zero_le _, by simp⟩
    obtain ⟨r, h1, h2⟩ := h
    cases r with
    | inl k => exact ⟨k, M.i_bind h1 M.i_pure, by rw [h2.2]; simpa using h2.1⟩
    | inr u => exact ⟨-1, M.i_bind h1 M.i_pure, by dsimp only at h2; rw [h2]; rfl⟩
  obtain ⟨r, h1, h2⟩ := key
  rw [show s.all p = !(decide (0 ≤ r)) from by rw [h2, Bool.not_not]]
  exact M.i_bind (M.i_bind h1 M.i_pure) M.i_pure
theorem notesLeads_ends {l : List Int} (hO : openedE ws = 0) (hr : ∀ x ∈ l, 0 ≤ x ∧ x < (ws.length : Int)) (hl : l.length ≤ 1000000) : (m_notes_Leads ws l).Ends (lineB ws l && decide (0 < (l.length : Int)), 0) := by
  unfold m_notes_Leads
  have he := everyInt_ends (s := l) (f := fun x => m_notes_Leads_1 x ws) (p := fun x => inB x 0 ((ws.length : Int) - 1)) (fun x _ => M.i_pure)
  have ha : (l.all fun x => inB x 0 ((ws.length : Int) - 1)) = true := by
    rw [List.all_eq_true]
    intro x hx
    have := hr x hx
    unfold inB
    simp only [Bool.and_eq_true, decide_eq_true_eq]
    omega
  rw [ha] at he
  refine M.i_t (by simp [hO]) (M.i_f rfl (M.i_bind he (M.i_f rfl (M.i_bind (a := lineB ws l && decide (0 < (l.length : Int))) ?_ M.i_pure))))
  unfold m_notes_web_leads
  by_cases hz : l = []
  · subst hz
    have h0 : (M.iter (m_notes_web_leads_b0 ws []) 1).Ends (.inr ()) := M.i_stop (by simp only [m_notes_web_leads_b0]; exact M.i_f (by simp) M.i_pure)
    exact M.i_bind h0 M.i_pure
  · have hl1 : 1 ≤ l.length := List.length_pos_iff.2 hz
    have s1 := M.i_scanF (b := m_notes_web_leads_b0 ws l) l.length 1 (fun i => decide (1 ≤ i) && !((ws.getD (l.getD i 0).toNat default).of.contains (l.getD (i - 1) 0))) (fun j hj => by rw [decide_eq_false (by omega)]; rfl) hl1 (fun i h1 hi _ => ?_) (fun _ => ?_)
    · refine M.i_bind s1 ?_
      rw [lineB_at1]
      cases (List.range l.length).any fun i => decide (1 ≤ i) && !((ws.getD (l.getD i 0).toNat default).of.contains (l.getD (i - 1) 0)) <;> exact M.i_pure
    · have hm := hr _ (getD_memN l (by omega : (i : Int) < _) 0)
      simp only [m_notes_web_leads_b0, show ((i : Int) - 1).toNat = i - 1 from by omega]
      refine M.i_t (by simpa using hi) (M.grdD (by omega) (M.i_grd (gA2 (by omega) (by omega)) (M.i_grd (gA2 (by omega) (by omega)) (M.i_bind (webOf_ends hm.1 hm.2 _) ?_))))
      rw [decide_eq_true h1, Bool.true_and]
      cases (ws.getD (l.getD i 0).toNat default).of.contains (l.getD (i - 1) 0) <;> exact M.i_pure
    · simp only [m_notes_web_leads_b0]
      exact M.i_f (by simp) M.i_pure
end Go.Proofs.Ytndobgodeicloaa
namespace Go.Nm
open Go
section
variable {P : Program} {w : World} {σ : Env} {d : Nat} {ty : TypeId} {pos : String} {af : Array Edge} {g : Option (Nat × Bool)}
theorem sl_none {α : Type} [Elt α] {C : Cells} {v : Value} {l : List α} (h : Sl C v l) (hn : l = [] → v = .slice none 0 0) : ∃ a n c, v = .slice a n c ∧ a.isNone = l.isEmpty := by
  cases l with
  | nil => exact ⟨none, 0, 0, hn rfl, rfl⟩
  | cons x l =>
    obtain ⟨a, c, hv, _, _, hh⟩ := h.ex
    obtain ⟨b, o, cs, rfl, _⟩ := hh 0 x rfl
    exact ⟨_, _, _, hv, rfl⟩
theorem x_nenil {α : Type} [Elt α] {t e yt : TypeId} {x y : Operand} {C : Cells} {v : Value} {l : List α} (ht : P.underlying t = some (.slice e)) (hx : ev σ x = v) (hy : ev σ y = .slice none 0 0) (h : Sl C v l) (hn : l = [] → v = .slice none 0 0) :
    (execOp (ev σ) ⟨some d, .binOp .neq t x y yt, ty, pos, af, g⟩).run P w = .ok (.value (.bool (!l.isEmpty))) w := by
  obtain ⟨a, n, c, rfl, ha⟩ := sl_none h hn
  simp [execOp, hx, hy, eqGuard, binOp, run_equal_slice_nil w t e a n c ht, ha]
end
end Go.Nm
section
set_option maxRecDepth 100000
set_option maxHeartbeats 16000000
namespace Go.Proofs.Ytndobgodeicloaa
open Go Go.Nm
def m_notes_web_search (w__list_works : List Work) (enters : Int → M Bool) : M (Int → Option Bool) :=
  M.pure (fun _ => none)
theorem notes_web_search_ok {R : List Chunk} {b_w_ : Nat} {C_w__list_works : Cells} {v_w__list_works : Value} {v_enters : Value} (w__list_works : List Work) (enters : Int → M Bool) (hC_w__list_works : Reads R C_w__list_works) (hs_w__list_works : Sl C_w__list_works v_w__list_works w__list_works) (h_b_w_ : Has R (cBlk b_w_ [v_w__list_works] 187)) (hf_enters : FnM Try.prog R v_enters enters) {r : (Int → Option Bool)} (hM : (m_notes_web_search w__list_works enters).Ends r) (w : World) (H : St w w [] R) : Ret Try.prog 108 #[Pz b_w_, v_enters] w fun v w' => ∃ (y0 : Int → Option Bool) (nb0 : Nat) (nb1 : Nat), y0 = r ∧ v = Pz nb0 ∧ St w w' [cBlk nb0 [Pz b_w_, v_enters, .map (some nb1)] 211, cMap I B nb1 y0] R := by
 refine ret_of_W Try.func108 rfl rfl rfl ?_
 refine sQ rfl <| sA (.pointer none) rfl <| s_nil <| sQ rfl <| sM (Pz b_w_) rfl <| sM v_enters rfl ?_
 refine t_mkmap (κ := Int) (ν := Bool) I B H ?_
 intro b_1 w1z H
 refine s_val (x_bld (ps := [(0, Pz b_w_), (1, v_enters), (2, .map (some b_1))]) (zs := [.pointer none, .nilFunc, .map none]) (L' := [Pz b_w_, v_enters, .map (some b_1)]) rfl Try.underlying211 Al211 rfl (Bd211 Try.underlying211) (.cons (cs := [Pz b_w_]) rfl rfl rfl rfl rfl <| .cons (cs := [v_enters]) (FnM.cells hf_enters) rfl rfl rfl rfl <| .cons (cs := [.map (some b_1)]) rfl rfl rfl rfl rfl <| .nil)) ?_
 refine t_box (v := .agg #[Pz b_w_, v_enters, .map (some b_1)]) (cs := [Pz b_w_, v_enters, .map (some b_1)]) H rfl rfl ?_
 intro b_2 w2z H
 refine sA (Pz b_2) rfl <| s_nil ?_
 refine W.ret ?_
 have hr_ := M.e_pure hM
 exact ⟨_, resE_tmp rfl, ⟨(fun _ => none), b_2, b_1, hr_, rfl, H⟩⟩

def m_notes_Line_1 (x : Int) : M Bool :=
  M.pure true
theorem notes_Line_1_ok {R : List Chunk}  (x : Int)  {r : Bool} (hM : (m_notes_Line_1 x).Ends r) (w : World) (H : St w w [] R) : Ret Try.prog 109 #[I x] w fun v w' => ∃ (y0 : Bool), y0 = r ∧ v = B y0 ∧ St w w' [] R := by
 refine ret_of_W Try.func109 rfl rfl rfl ?_
 refine sQ rfl <| sA (B false) rfl <| s_nil <| sQ rfl <| sA (B true) rfl <| s_nil ?_
 refine W.ret ?_
 have hr_ := M.e_pure hM
 exact ⟨_, resE_tmp rfl, ⟨true, hr_, rfl, H⟩⟩

def m_notes_search_on_b0 (s_web_list_works : List Work) (s_enters : Int → M Bool) (from_ : Int) (to_ : Int) (self_ : ((List Work) × (Int → M Bool) × (Int → Option Bool) × Int × Int) → M ((List Int) × (Int → Option Bool))) : (Int → Option Bool) → Int → M ((Int → Option Bool) ⊕ ((List Int) × (Int → Option Bool))) := fun mp x =>
  bif ((!((mp (x : Int)).getD false)) && (x != to_)) then (
  M.bind (s_enters x) fun r8 =>
  bif (((mp (x : Int)).getD false) || ((x != to_) && (!r8))) then (
  M.pure (.inl mp))
  else (
  M.bind (self_ (s_web_list_works, s_enters, mp, x, to_)) fun (r4, q_b_s_met) =>
  bif !r4.isEmpty then (
  M.grd (decide ((([(from_ : Int)]).length + r4.length) * 8 ≤ 140737488355328)) <|
  M.pure (.inr (([(from_ : Int)]) ++ r4, q_b_s_met)))
  else (
  M.pure (.inl q_b_s_met))))
  else (
  bif (((mp (x : Int)).getD false) || ((x != to_) && (!false))) then (
  M.pure (.inl mp))
  else (
  M.bind (self_ (s_web_list_works, s_enters, mp, x, to_)) fun (r4, q_b_s_met) =>
  bif !r4.isEmpty then (
  M.grd (decide ((([(from_ : Int)]).length + r4.length) * 8 ≤ 140737488355328)) <|
  M.pure (.inr (([(from_ : Int)]) ++ r4, q_b_s_met)))
  else (
  M.pure (.inl q_b_s_met))))
def m_notes_search_on_F (self_ : ((List Work) × (Int → M Bool) × (Int → Option Bool) × Int × Int) → M ((List Int) × (Int → Option Bool))) : ((List Work) × (Int → M Bool) × (Int → Option Bool) × Int × Int) → M ((List Int) × (Int → Option Bool)) := fun (s_web_list_works, s_enters, s_met, from_, to_) =>
  bif from_ == to_ then (
  M.pure (([(to_ : Int)]), s_met))
  else (
  M.bind (m_notes_web_made s_web_list_works from_) fun r10 =>
  M.bind (m_notes_web_made_1 (M.yl (m_notes_search_on_b0 s_web_list_works s_enters from_ to_ self_)) (.inl (updF s_met (from_ : Int) true)) s_web_list_works r10) fun x_ => match x_ with
  | .inl mp => (
  M.pure (([]), mp))
  | .inr (l, mp2) => (
  M.grd (decide (0 < l.length)) <|
  M.pure (l, mp2)))
theorem m_notes_search_on_mon : M.Mon m_notes_search_on_F := by
  intro n f g h a
  obtain ⟨s_web_list_works, s_enters, s_met, from_, to_⟩ := a
  simp only [m_notes_search_on_F, m_notes_search_on_b0]
  repeat' (first | exact M.le_same _ _ | exact h _ | refine M.le_grd ?_ | refine M.le_if ?_ ?_ | refine M.le_bind ?_ (fun x => ?_) | refine M.le_opt ?_ | refine M.le_iter (fun x => ?_) _ | refine m_notes_web_made_1_le (M.le_yl (fun s_ a_ => ?_)) _ _ _ | (rename_i x; cases x) | (rename_i x; obtain ⟨_, _⟩ := x))
def m_notes_search_on (s_web_list_works : List Work) (s_enters : Int → M Bool) (s_met : Int → Option Bool) (from_ : Int) (to_ : Int) : M ((List Int) × (Int → Option Bool)) := M.fix m_notes_search_on_F m_notes_search_on_mon (s_web_list_works, s_enters, s_met, from_, to_)
theorem notes_search_on_okN (n_ : Nat) : ∀ {R : List Chunk} {b_s : Nat} {b_s_web : Nat} {C_s_web_list_works : Cells} {v_s_web_list_works : Value} {v_s_enters : Value} {b_s_met : Nat} (s_web_list_works : List Work) (s_enters : Int → M Bool) (s_met : Int → Option Bool) (from_ : Int) (to_ : Int) (hC_s_web_list_works : Reads R C_s_web_list_works) (hs_s_web_list_works : Sl C_s_web_list_works v_s_web_list_works s_web_list_works) (h_b_s_web : Has R (cBlk b_s_web [v_s_web_list_works] 187)) (hf_s_enters : FnM Try.prog R v_s_enters s_enters) (h_b_s : Has R (cBlk b_s [Pz b_s_web, v_s_enters, .map (some b_s_met)] 211)) {r : ((List Int) × (Int → Option Bool))} (hM : (M.fixN m_notes_search_on_F n_ (s_web_list_works, s_enters, s_met, from_, to_)).Ends r) (w : World) (H : St w w [cMap I B b_s_met s_met] R), Ret Try.prog 150 #[Pz b_s, I from_, I to_] w fun v w' => ∃ (y0 : List Int) (y1 : Int → Option Bool) (u0 : Value), (y0, y1) = r ∧ v = u0 ∧ St w w' [cOwn (α := Int) 3 u0 y0, cMap I B b_s_met y1] R ∧ (y0 = [] → u0 = .slice none 0 0) := by
  induction n_ with
  | zero => intro R b_s b_s_web C_s_web_list_works v_s_web_list_works v_s_enters b_s_met s_web_list_works s_enters s_met from_ to_ hC_s_web_list_works hs_s_web_list_works h_b_s_web hf_s_enters h_b_s r hM w H; exact (M.e_fail hM).elim
  | succ n_ ih =>
    intro R b_s b_s_web C_s_web_list_works v_s_web_list_works v_s_enters b_s_met s_web_list_works s_enters s_met from_ to_ hC_s_web_list_works hs_s_web_list_works h_b_s_web hf_s_enters h_b_s r hM w H
    refine ret_of_WD Try.func150 rfl rfl rfl ?_
    replace H : St w w [cMk ([]), cMap I B b_s_met s_met] R := H.mk0
    have hl_s_web_list_works := hs_s_web_list_works.len_le
    simp only [M.fixN, m_notes_search_on_F] at hM
    refine WD.seq ?_
    refine WD.of ?_
    refine W.region rfl ?_
    refine t_box (v := Pz b_s) (cs := [Pz b_s]) H rfl rfl ?_
    intro b_1 w1z H
    refine t_box (v := I from_) (cs := [I from_]) H rfl rfl ?_
    intro b_2 w2z H
    refine t_box (v := I to_) (cs := [I to_]) H rfl rfl ?_
    intro b_3 w3z H
    refine t_alloc (cs := [.slice none 0 0]) H Al34 rfl ?_
    intro b_4 w4z H
    refine s_nil ?_
    refine WD.seq ?_
    refine WD.seq ?_
    refine WD.of ?_
    refine W.region rfl <| s_val (x_ld (p := Pz b_2) (v := I from_) rfl (ldb_sc Sc3 (H.blk (k := 2) rfl) rfl)) <| s_val (x_ld (p := Pz b_3) (v := I to_) rfl (ldb_sc Sc3 (H.blk (k := 1) rfl) rfl)) <| sC from_ to_ (from_ == to_) rfl rfl rfl <| s_nil ?_
    refine WD.cond (from_ == to_) rfl (fun c5z => ?_) (fun c5z => ?_)
    ·replace hM := M.e_t hM c5z
     simp only [qz1, qz2, qz3, qz4, qz5, qz6, ne_eq, qz7] at c5z
     refine WD.seq ?_
     refine WD.of ?_
     refine W.region rfl <| s_val (x_ld (p := Pz b_3) (v := I to_) rfl (ldb_sc Sc3 (H.blk (k := 1) rfl) rfl)) ?_
     refine t_bs (α := Int) T34 [I to_] [(to_ : Int)] H rfl (.cons rfl (Flat.rep_enc _ (to_ : Int)) <| .nil) rfl rfl rfl ?_
     intro v6z w7z H
     refine t_st (k := 1) (b := b_4) (off := 0) (cs := [.slice none 0 0]) (vs := [v6z]) (cs' := [v6z]) (v := v6z) (L' := [cOwn (α := Int) 3 v6z ([(to_ : Int)]), cBlk b_4 [v6z] 34, cBlk b_3 [I to_] 3, cBlk b_2 [I from_] 3, cBlk b_1 [Pz b_s] 160, cMk ([]), cMap I B b_s_met s_met]) H rfl rfl rfl Sz34 (Sl.cells (ownSl (H.get (k := 0) rfl))) rfl rfl (by simp only [List.all_cons, List.all_nil, Bool.true_and, Bool.and_true, Sl.oc (ownSl (H.get (k := 0) rfl))]; try rfl) rfl rfl ?_
     intro w8z H
     refine s_nil ?_
     refine WD.of ?_
     refine W.ret ?_
     refine bodyD_r (H.pick [5, 0, 1, 2, 3, 4, 6] (by decide) rfl) ?_
     intro w9z H
     replace H : St w w9z [cOwn (α := Int) 3 v6z ([(to_ : Int)]), cBlk b_4 [v6z] 34, cBlk b_3 [I to_] 3, cBlk b_2 [I from_] 3, cBlk b_1 [Pz b_s] 160, cMap I B b_s_met s_met] R := H
     have hb10z := (H.blk (k := 1) rfl)
     have hr_ := M.e_pure hM
     exact ⟨_, (resE_of1 (v := v6z) rfl (.cell (v := v6z) rfl (run_loadVar_sc Sc34 hb10z rfl) <| .nil)), ⟨([(to_ : Int)]), s_met, v6z, hr_, rfl, (H.pick [0, 5] (by decide) rfl), (fun h_ => absurd h_ (by simp))⟩⟩
    replace hM := M.e_f hM c5z
    simp only [qz1, qz2, qz3, qz4, qz5, qz6, ne_eq, qz7] at c5z
    refine WD.of ?_
    refine W.skip ?_
    refine WD.seq ?_
    refine WD.of ?_
    refine W.draw (fun W => St w W [cBlk b_4 [.slice none 0 0] 34, cBlk b_3 [I to_] 3, cBlk b_2 [I from_] 3, cBlk b_1 [Pz b_s] 160, cMk ([])] R) [(0, true), (1, true), (2, true), (3, true), (4, true), (5, false)] mixed (by decide +kernel) rfl ?_
    intro w11z hx_
    replace H : St w w11z [cBlk b_4 [.slice none 0 0] 34, cBlk b_3 [I to_] 3, cBlk b_2 [I from_] 3, cBlk b_1 [Pz b_s] 160, cMk ([]), cMap I B b_s_met s_met] R := H.ext hx_
    clear hx_
    refine ⟨(H.pick [0, 1, 2, 3, 4] (by decide) rfl), ?_⟩
    refine d_q rfl (fun w' H => x_ld (p := Pz b_1) (v := Pz b_s) rfl (ldb_sc Sc160 (H.blk (k := 3) rfl) rfl)) ?_
    refine d_q rfl (fun w' H => x_nc (a := ⟨b_s, 0, none⟩) rfl) ?_
    refine d_q rfl (fun w' H => x_fa (a := Pz b_s) (v := Oz b_s 2) rfl (fa_blk (o := 0) Fd211_2 Sz178)) ?_
    refine d_q rfl (fun w' H => x_ld (p := Oz b_s 2) (v := .map (some b_s_met)) rfl (ldb_sc Sc178 (h_b_s.blk H) rfl)) ?_
    refine d_q rfl (fun w' H => x_ld (p := Pz b_2) (v := I from_) rfl (ldb_sc Sc3 (H.blk (k := 2) rfl) rfl)) ?_
    refine d_l rfl ?_
    refine t_mapu (i := 5) (kenc := I) (venc := B) (f := s_met) (k := (from_ : Int)) (v := true) (L' := [cBlk b_4 [.slice none 0 0] 34, cBlk b_3 [I to_] 3, cBlk b_2 [I from_] 3, cBlk b_1 [Pz b_s] 160, cMk ([]), cMap I B b_s_met (updF s_met (from_ : Int) true)]) keyIntB Try.underlying178 H rfl rfl rfl rfl rfl ?_
    intro w12z H
    refine s_nil ⟨(H.pick [0, 1, 2, 3, 4] (by decide) rfl), ?_⟩
    refine d_nil ?_
    refine WD.seq ?_
    refine WD.seq ?_
    refine WD.of ?_
    refine W.draw (fun W => St w W [cBlk b_4 [.slice none 0 0] 34, cBlk b_3 [I to_] 3, cBlk b_2 [I from_] 3, cBlk b_1 [Pz b_s] 160, cMk ([]), cMap I B b_s_met (updF s_met (from_ : Int) true)] R) [(0, true), (1, true), (2, true), (3, true), (4, true), (5, false)] mixed (by decide +kernel) rfl ?_
    intro w13z hx_
    replace H : St w w13z [cBlk b_4 [.slice none 0 0] 34, cBlk b_3 [I to_] 3, cBlk b_2 [I from_] 3, cBlk b_1 [Pz b_s] 160, cMk ([]), cMap I B b_s_met (updF s_met (from_ : Int) true)] R := H.ext hx_
    clear hx_
    refine ⟨(H.pick [0, 1, 2, 3, 4, 5] (by decide) rfl), ?_⟩
    refine d_q rfl (fun w' H => x_ld (p := Pz b_1) (v := Pz b_s) rfl (ldb_sc Sc160 (H.blk (k := 3) rfl) rfl)) ?_
    refine d_q rfl (fun w' H => x_nc (a := ⟨b_s, 0, none⟩) rfl) ?_
    refine d_q rfl (fun w' H => x_fa (a := Pz b_s) (v := Pz b_s) rfl (fa_blk (o := 0) Fd211_0 Sz127)) ?_
    refine d_q rfl (fun w' H => x_ld (p := Pz b_s) (v := Pz b_s_web) rfl (ldb_sc Sc127 (h_b_s.blk H) rfl)) ?_
    refine d_q rfl (fun w' H => x_ld (p := Pz b_2) (v := I from_) rfl (ldb_sc Sc3 (H.blk (k := 2) rfl) rfl)) ?_
    refine d_l rfl ?_
    obtain ⟨r15z, hx14z, hM⟩ := M.e_bind hM
    refine s_call cf98 [Pz b_s_web, I from_] rfl (notes_web_made_ok s_web_list_works from_ (hC_s_web_list_works.app _) hs_s_web_list_works (h_b_s_web.app _) hx14z _ (St.give (T := [cBlk b_4 [.slice none 0 0] 34, cBlk b_3 [I to_] 3, cBlk b_2 [I from_] 3, cBlk b_1 [Pz b_s] 160, cMk ([]), cMap I B b_s_met (updF s_met (from_ : Int) true)]) H rfl)) ?_
    rintro vq w16z ⟨r10, nb0_6, nb1_7, hr17z, hvq, H2_⟩
    subst hr17z
    subst vq
    try dsimp only at hM
    replace H : St w w16z [cBlk nb0_6 [Pz b_s_web] 127, cBlk nb1_7 [I r10] 3, cBlk b_4 [.slice none 0 0] 34, cBlk b_3 [I to_] 3, cBlk b_2 [I from_] 3, cBlk b_1 [Pz b_s] 160, cMk ([]), cMap I B b_s_met (updF s_met (from_ : Int) true)] R := H.back H2_ rfl
    clear H2_
    refine s_nil ⟨(H.pick [2, 3, 4, 5, 6, 7] (by decide) rfl), ?_⟩
    refine d_nil ?_
    refine WD.block ?_
    obtain ⟨t18z, hx19z, hM⟩ := M.e_bind hM
    refine WD.range (L := [cBlk b_4 [.slice none 0 0] 34, cMap I B b_s_met (updF s_met (from_ : Int) true), cBlk nb0_6 [Pz b_s_web] 127, cBlk nb1_7 [I r10] 3, cBlk b_3 [I to_] 3, cBlk b_2 [I from_] 3, cBlk b_1 [Pz b_s] 160]) [Pz nb0_6, Pz nb1_7] (H.pick [6, 2, 7, 0, 1, 3, 4, 5] (by decide) rfl) rfl cf148 ?_
    intro l20z D21z r22z w23z hr24z H
    have hYC : YieldC Try.prog ([cMk (D21z :: ([])), cBlk nb0_6 [Pz b_s_web] 127, cBlk nb1_7 [I r10] 3, cBlk b_3 [I to_] 3, cBlk b_2 [I from_] 3, cBlk b_1 [Pz b_s] 160] ++ R) arI (yJ l20z r22z (fun mp Ls_ => Ls_ = [cBlk b_4 [.slice none 0 0] 34, cMap I B b_s_met mp]) (fun (l, mp2) Ls_ => ∃ (v_o_9 : Value), Ls_ = [cBlk b_4 [v_o_9] 34, cMap I B b_s_met mp2, cOwn (α := Int) 3 v_o_9 l]) (fun _ => .ret)) (.func (.yield l20z) #[] #[]) (M.yl (m_notes_search_on_b0 s_web_list_works s_enters from_ to_ (M.fixN m_notes_search_on_F n_))) := by
     refine YieldC.mk hr24z (fun mp Ls_ => Ls_ = [cBlk b_4 [.slice none 0 0] 34, cMap I B b_s_met mp]) (fun (l, mp2) Ls_ => ∃ (v_o_9 : Value), Ls_ = [cBlk b_4 [v_o_9] 34, cMap I B b_s_met mp2, cOwn (α := Int) 3 v_o_9 l]) (fun _ => .ret) (m_notes_search_on_b0 s_web_list_works s_enters from_ to_ (M.fixN m_notes_search_on_F n_)) (by rintro mp _ h_; obtain ⟨rfl⟩ := h_; rfl) (by rintro ⟨l, mp2⟩ _ h_; (obtain ⟨_, rfl⟩ := h_; rfl)) rfl (arI_len rfl) ?_
     intro C_ vs_ x W_ hA_
     obtain rfl := hA_
     refine W.region rfl <| sA (I x) rfl <| s_nil ?_
     refine ⟨rfl, rfl, ?_⟩
     intro w R hR_ Ls_ s_ r hY_ hM H
     skip
     obtain ⟨mp, hs_eq_⟩ : ∃ y_, y_ = s_ := ⟨_, rfl⟩
     subst hs_eq_
     obtain ⟨rfl⟩ := hY_
     replace hC_s_web_list_works := hC_s_web_list_works.sub hR_
     replace h_b_s_web := h_b_s_web.sub hR_
     replace hf_s_enters := hf_s_enters.sub hR_
     replace h_b_s := h_b_s.sub hR_
     replace hM : (m_notes_search_on_b0 s_web_list_works s_enters from_ to_ (M.fixN m_notes_search_on_F n_) mp x).Ends r := hM
     simp only [m_notes_search_on_b0] at hM
     replace H : St w w [cBlk b_4 [.slice none 0 0] 34, cMap I B b_s_met mp, cBlk nb0_6 [Pz b_s_web] 127, cBlk nb1_7 [I r10] 3, cBlk b_3 [I to_] 3, cBlk b_2 [I from_] 3, cBlk b_1 [Pz b_s] 160, cMk (D21z :: ([]))] R := H.pick [0, 1, 3, 4, 5, 6, 7, 2] (by decide) rfl
     refine W.block <| W.seq <| sQ rfl <| s_val (x_ld (p := Pz b_1) (v := Pz b_s) rfl (ldb_sc Sc160 (H.blk (k := 6) rfl) rfl)) <| s_val (x_nc (a := ⟨b_s, 0, none⟩) rfl) <| s_val (x_fa (a := Pz b_s) (v := Oz b_s 2) rfl (fa_blk (o := 0) Fd211_2 Sz178)) <| s_val (x_ld (p := Oz b_s 2) (v := .map (some b_s_met)) rfl (ldb_sc Sc178 (h_b_s.blk H) rfl)) <| sM (I x) rfl <| s_val (q_look (kenc := I) (venc := B) (f := mp) (k := (x : Int)) (v := B ((mp (x : Int)).getD false)) keyIntB Try.underlying178 Al4 rfl rfl (H.get (k := 1) rfl) false (by rw [if_neg (by decide), bool_val])) <| sM (B ((mp (x : Int)).getD false)) rfl <| g_val (!((mp (x : Int)).getD false)) (gy_f rfl) (fun hg => x_mv (v := I x) rfl) ?_
     refine g_val (!((mp (x : Int)).getD false)) (gy_f rfl) (fun hg => x_ld (p := Pz b_3) (v := I to_) rfl (ldb_sc Sc3 (H.blk (k := 4) rfl) rfl)) <| g_val (!((mp (x : Int)).getD false)) (gy_f rfl) (fun hg => x_cmp (kd := .i64) (a := x) (b := to_) (r := x != to_) (gd_of (c := !((mp (x : Int)).getD false)) hg (I x)) (gd_of (c := !((mp (x : Int)).getD false)) hg (I to_)) rfl) <| g_val (!((mp (x : Int)).getD false)) (gy_f rfl) (fun hg => x_mv (v := B (x != to_)) (gd_of (c := !((mp (x : Int)).getD false)) hg (B (x != to_)))) <| g_val ((!((mp (x : Int)).getD false)) && (x != to_)) (gy_gt rfl rfl) (fun hg => x_ld (p := Pz b_1) (v := Pz b_s) rfl (ldb_sc Sc160 (H.blk (k := 6) rfl) rfl)) <| g_val ((!((mp (x : Int)).getD false)) && (x != to_)) (gy_gt rfl rfl) (fun hg => x_nc (a := ⟨b_s, 0, none⟩) (gd_of (c := ((!((mp (x : Int)).getD false)) && (x != to_))) hg (Pz b_s))) <| g_val ((!((mp (x : Int)).getD false)) && (x != to_)) (gy_gt rfl rfl) (fun hg => x_fa (a := Pz b_s) (v := Oz b_s 1) (gd_of (c := ((!((mp (x : Int)).getD false)) && (x != to_))) hg (Pz b_s)) (fa_blk (o := 0) Fd211_1 Sz75)) <| g_val ((!((mp (x : Int)).getD false)) && (x != to_)) (gy_gt rfl rfl) (fun hg => x_ld (p := Oz b_s 1) (v := v_s_enters) (gd_of (c := ((!((mp (x : Int)).getD false)) && (x != to_))) hg (Oz b_s 1)) (ldb_sc Sc75 (h_b_s.blk H) rfl)) <| g_val ((!((mp (x : Int)).getD false)) && (x != to_)) (gy_gt rfl rfl) (fun hg => x_mv (v := I x) rfl) ?_
     refine g_splitV ((!((mp (x : Int)).getD false)) && (x != to_)) (B false) (gy_gt rfl rfl) (fun hg_ => ?_) (fun hg_ => ?_)
     ·replace hM := M.e_t hM hg_
      obtain ⟨r9, hx28z, hM⟩ := M.e_bind hM
      refine t_callM H hf_s_enters (gd_of (c := ((!((mp (x : Int)).getD false)) && (x != to_))) hg_ (v_s_enters)) (gd_of (c := ((!((mp (x : Int)).getD false)) && (x != to_))) hg_ (I x)) x Reads.none (Arg.mkI (fun _ => none) _) hx28z ?_
      intro w27z H
      refine g_val ((!((mp (x : Int)).getD false)) && (x != to_)) (gy_gt rfl rfl) (fun hg => x_not (b := r9) rfl) <| g_val (!((mp (x : Int)).getD false)) (gy_f rfl) (fun hg => x_pand (b := x != to_) (r := !r9) (gd_of (c := !((mp (x : Int)).getD false)) hg (B (x != to_))) (fun hb => gd_of (c := ((!((mp (x : Int)).getD false)) && (x != to_))) (by first | exact hb | (rw [hb]; rfl) | simp_all) (B (!r9))) rfl) <| s_val (x_por (b := (mp (x : Int)).getD false) (r := ((x != to_) && (!r9))) rfl rfl (fun hb => gd_of (c := !((mp (x : Int)).getD false)) (by first | exact hb | (rw [hb]; rfl) | simp_all) (B ((x != to_) && (!r9))))) <| s_nil ?_
      refine W.cond (((mp (x : Int)).getD false) || ((x != to_) && (!r9))) rfl (fun c29z => ?_) (fun c29z => ?_)
      ·replace hM := M.e_t hM c29z
       refine W.exit ?_
       exact ⟨mp, [cBlk b_4 [.slice none 0 0] 34, cMap I B b_s_met mp], (M.e_pure hM).symm, rfl, H.pick [0, 1, 7, 2, 3, 4, 5, 6] (by decide) rfl⟩
      replace hM := M.e_f hM c29z
      refine W.skip <| sQ rfl <| s_val (x_ld (p := Pz b_1) (v := Pz b_s) rfl (ldb_sc Sc160 (H.blk (k := 6) rfl) rfl)) <| sM (I x) rfl <| s_val (x_ld (p := Pz b_3) (v := I to_) rfl (ldb_sc Sc3 (H.blk (k := 4) rfl) rfl)) ?_
      obtain ⟨r31z, hx30z, hM⟩ := M.e_bind hM
      refine s_call cf150 [Pz b_s, I x, I to_] rfl (ih s_web_list_works s_enters mp x to_ (hC_s_web_list_works.app _) hs_s_web_list_works (h_b_s_web.app _) (hf_s_enters.app _) (h_b_s.app _) hx30z _ (St.give (L := [cMap I B b_s_met mp, cBlk b_4 [.slice none 0 0] 34, cBlk nb0_6 [Pz b_s_web] 127, cBlk nb1_7 [I r10] 3, cBlk b_3 [I to_] 3, cBlk b_2 [I from_] 3, cBlk b_1 [Pz b_s] 160, cMk (D21z :: ([]))]) (A := [cMap I B b_s_met mp]) (T := [cBlk b_4 [.slice none 0 0] 34, cBlk nb0_6 [Pz b_s_web] 127, cBlk nb1_7 [I r10] 3, cBlk b_3 [I to_] 3, cBlk b_2 [I from_] 3, cBlk b_1 [Pz b_s] 160, cMk (D21z :: ([]))]) (H.pick [1, 0, 2, 3, 4, 5, 6, 7] (by decide) rfl) rfl)) ?_
      rintro vq w32z ⟨r4, q_b_s_met, u0_8, hr33z, hvq, H2_, hf34z⟩
      subst hr33z
      subst vq
      try dsimp only at hM
      replace H : St w w32z [cOwn (α := Int) 3 u0_8 r4, cMap I B b_s_met q_b_s_met, cBlk b_4 [.slice none 0 0] 34, cBlk nb0_6 [Pz b_s_web] 127, cBlk nb1_7 [I r10] 3, cBlk b_3 [I to_] 3, cBlk b_2 [I from_] 3, cBlk b_1 [Pz b_s] 160, cMk (D21z :: ([]))] R := H.pick [1, 0, 2, 3, 4, 5, 6, 7] (by decide) rfl |>.back H2_ rfl
      clear H2_
      refine sA u0_8 rfl <| s_nil <| sQ rfl <| sM u0_8 rfl <| s_val (x_nenil (α := Int) T34.und rfl rfl (ownSl (H.get (k := 0) rfl)) hf34z) <| s_nil ?_
      refine W.cond (!r4.isEmpty) rfl (fun c35z => ?_) (fun c35z => ?_)
      ·replace hM := M.e_t hM c35z
       refine sQ rfl <| s_val (x_ld (p := Pz b_2) (v := I from_) rfl (ldb_sc Sc3 (H.blk (k := 6) rfl) rfl)) ?_
       refine t_bs (α := Int) T34 [I from_] [(from_ : Int)] H rfl (.cons rfl (Flat.rep_enc _ (from_ : Int)) <| .nil) rfl rfl rfl ?_
       intro v36z w37z H
       refine sM u0_8 rfl ?_
       obtain ⟨sd38z, hM⟩ := M.e_gd hM
       refine t_app (α := Int) (k := 0) (l := [(from_ : Int)]) (l2 := r4) (l' := ([(from_ : Int)]) ++ r4) (vy := u0_8) T34 rfl H rfl rfl rfl (ownSl (H.get (k := 1) rfl)) (ownLe _ (H.get (k := 1) rfl)) (rfl) (by first | omega | (simp only [List.length_nil] at *; omega)) ?_
       intro v39z w40z H
       replace H : St w w40z [cOwn (α := Int) 3 v39z (([(from_ : Int)]) ++ r4), cOwn (α := Int) 3 u0_8 r4, cMap I B b_s_met q_b_s_met, cBlk b_4 [.slice none 0 0] 34, cBlk nb0_6 [Pz b_s_web] 127, cBlk nb1_7 [I r10] 3, cBlk b_3 [I to_] 3, cBlk b_2 [I from_] 3, cBlk b_1 [Pz b_s] 160, cMk (D21z :: ([]))] R := H
       refine t_st (k := 3) (b := b_4) (off := 0) (cs := [.slice none 0 0]) (vs := [v39z]) (cs' := [v39z]) (v := v39z) (L' := [cOwn (α := Int) 3 v39z (([(from_ : Int)]) ++ r4), cOwn (α := Int) 3 u0_8 r4, cMap I B b_s_met q_b_s_met, cBlk b_4 [v39z] 34, cBlk nb0_6 [Pz b_s_web] 127, cBlk nb1_7 [I r10] 3, cBlk b_3 [I to_] 3, cBlk b_2 [I from_] 3, cBlk b_1 [Pz b_s] 160, cMk (D21z :: ([]))]) H rfl rfl rfl Sz34 (Sl.cells (ownSl (H.get (k := 0) rfl))) rfl rfl (by simp only [List.all_cons, List.all_nil, Bool.true_and, Bool.and_true, Sl.oc (ownSl (H.get (k := 0) rfl))]; try rfl) rfl rfl ?_
       intro w41z H
       refine s_nil ?_
       refine W.ret ?_
       exact ⟨(([(from_ : Int)]) ++ r4, q_b_s_met), [cBlk b_4 [v39z] 34, cMap I B b_s_met q_b_s_met, cOwn (α := Int) 3 v39z (([(from_ : Int)]) ++ r4)], (M.e_pure hM).symm, ⟨v39z, rfl⟩, H.pick [3, 2, 0, 9, 4, 5, 6, 7, 8] (by decide) rfl, rfl⟩
      replace hM := M.e_f hM c35z
      refine W.skip ?_
      exact ⟨q_b_s_met, [cBlk b_4 [.slice none 0 0] 34, cMap I B b_s_met q_b_s_met], (M.e_pure hM).symm, rfl, H.pick [2, 1, 8, 3, 4, 5, 6, 7] (by decide) rfl⟩
     replace hM := M.e_f hM hg_
     refine g_val ((!((mp (x : Int)).getD false)) && (x != to_)) (gy_gt rfl rfl) (fun hg => x_not (b := false) (gd_of (c := ((!((mp (x : Int)).getD false)) && (x != to_))) hg (B false))) <| g_val (!((mp (x : Int)).getD false)) (gy_f rfl) (fun hg => x_pand (b := x != to_) (r := !false) (gd_of (c := !((mp (x : Int)).getD false)) hg (B (x != to_))) (fun hb => gd_of (c := ((!((mp (x : Int)).getD false)) && (x != to_))) (by first | exact hb | (rw [hb]; rfl) | simp_all) (B (!false))) rfl) <| s_val (x_por (b := (mp (x : Int)).getD false) (r := ((x != to_) && (!false))) rfl rfl (fun hb => gd_of (c := !((mp (x : Int)).getD false)) (by first | exact hb | (rw [hb]; rfl) | simp_all) (B ((x != to_) && (!false))))) <| s_nil ?_
     refine W.cond (((mp (x : Int)).getD false) || ((x != to_) && (!false))) rfl (fun c42z => ?_) (fun c42z => ?_)
     ·replace hM := M.e_t hM c42z
      refine W.exit ?_
      exact ⟨mp, [cBlk b_4 [.slice none 0 0] 34, cMap I B b_s_met mp], (M.e_pure hM).symm, rfl, H.pick [0, 1, 7, 2, 3, 4, 5, 6] (by decide) rfl⟩
     replace hM := M.e_f hM c42z
     refine W.skip <| sQ rfl <| s_val (x_ld (p := Pz b_1) (v := Pz b_s) rfl (ldb_sc Sc160 (H.blk (k := 6) rfl) rfl)) <| sM (I x) rfl <| s_val (x_ld (p := Pz b_3) (v := I to_) rfl (ldb_sc Sc3 (H.blk (k := 4) rfl) rfl)) ?_
     obtain ⟨r44z, hx43z, hM⟩ := M.e_bind hM
     refine s_call cf150 [Pz b_s, I x, I to_] rfl (ih s_web_list_works s_enters mp x to_ (hC_s_web_list_works.app _) hs_s_web_list_works (h_b_s_web.app _) (hf_s_enters.app _) (h_b_s.app _) hx43z _ (St.give (L := [cMap I B b_s_met mp, cBlk b_4 [.slice none 0 0] 34, cBlk nb0_6 [Pz b_s_web] 127, cBlk nb1_7 [I r10] 3, cBlk b_3 [I to_] 3, cBlk b_2 [I from_] 3, cBlk b_1 [Pz b_s] 160, cMk (D21z :: ([]))]) (A := [cMap I B b_s_met mp]) (T := [cBlk b_4 [.slice none 0 0] 34, cBlk nb0_6 [Pz b_s_web] 127, cBlk nb1_7 [I r10] 3, cBlk b_3 [I to_] 3, cBlk b_2 [I from_] 3, cBlk b_1 [Pz b_s] 160, cMk (D21z :: ([]))]) (H.pick [1, 0, 2, 3, 4, 5, 6, 7] (by decide) rfl) rfl)) ?_
     rintro vq w45z ⟨r4, q_b_s_met, u0_8, hr46z, hvq, H2_, hf47z⟩
     subst hr46z
     subst vq
     try dsimp only at hM
     replace H : St w w45z [cOwn (α := Int) 3 u0_8 r4, cMap I B b_s_met q_b_s_met, cBlk b_4 [.slice none 0 0] 34, cBlk nb0_6 [Pz b_s_web] 127, cBlk nb1_7 [I r10] 3, cBlk b_3 [I to_] 3, cBlk b_2 [I from_] 3, cBlk b_1 [Pz b_s] 160, cMk (D21z :: ([]))] R := H.pick [1, 0, 2, 3, 4, 5, 6, 7] (by decide) rfl |>.back H2_ rfl
     clear H2_
     refine sA u0_8 rfl <| s_nil <| sQ rfl <| sM u0_8 rfl <| s_val (x_nenil (α := Int) T34.und rfl rfl (ownSl (H.get (k := 0) rfl)) hf47z) <| s_nil ?_
     refine W.cond (!r4.isEmpty) rfl (fun c48z => ?_) (fun c48z => ?_)
     ·replace hM := M.e_t hM c48z
      refine sQ rfl <| s_val (x_ld (p := Pz b_2) (v := I from_) rfl (ldb_sc Sc3 (H.blk (k := 6) rfl) rfl)) ?_
      refine t_bs (α := Int) T34 [I from_] [(from_ : Int)] H rfl (.cons rfl (Flat.rep_enc _ (from_ : Int)) <| .nil) rfl rfl rfl ?_
      intro v49z w50z H
      refine sM u0_8 rfl ?_
      obtain ⟨sd51z, hM⟩ := M.e_gd hM
      refine t_app (α := Int) (k := 0) (l := [(from_ : Int)]) (l2 := r4) (l' := ([(from_ : Int)]) ++ r4) (vy := u0_8) T34 rfl H rfl rfl rfl (ownSl (H.get (k := 1) rfl)) (ownLe _ (H.get (k := 1) rfl)) (rfl) (by first | omega | (simp only [List.length_nil] at *; omega)) ?_
      intro v52z w53z H
      replace H : St w w53z [cOwn (α := Int) 3 v52z (([(from_ : Int)]) ++ r4), cOwn (α := Int) 3 u0_8 r4, cMap I B b_s_met q_b_s_met, cBlk b_4 [.slice none 0 0] 34, cBlk nb0_6 [Pz b_s_web] 127, cBlk nb1_7 [I r10] 3, cBlk b_3 [I to_] 3, cBlk b_2 [I from_] 3, cBlk b_1 [Pz b_s] 160, cMk (D21z :: ([]))] R := H
      refine t_st (k := 3) (b := b_4) (off := 0) (cs := [.slice none 0 0]) (vs := [v52z]) (cs' := [v52z]) (v := v52z) (L' := [cOwn (α := Int) 3 v52z (([(from_ : Int)]) ++ r4), cOwn (α := Int) 3 u0_8 r4, cMap I B b_s_met q_b_s_met, cBlk b_4 [v52z] 34, cBlk nb0_6 [Pz b_s_web] 127, cBlk nb1_7 [I r10] 3, cBlk b_3 [I to_] 3, cBlk b_2 [I from_] 3, cBlk b_1 [Pz b_s] 160, cMk (D21z :: ([]))]) H rfl rfl rfl Sz34 (Sl.cells (ownSl (H.get (k := 0) rfl))) rfl rfl (by simp only [List.all_cons, List.all_nil, Bool.true_and, Bool.and_true, Sl.oc (ownSl (H.get (k := 0) rfl))]; try rfl) rfl rfl ?_
      intro w54z H
      refine s_nil ?_
      refine W.ret ?_
      exact ⟨(([(from_ : Int)]) ++ r4, q_b_s_met), [cBlk b_4 [v52z] 34, cMap I B b_s_met q_b_s_met, cOwn (α := Int) 3 v52z (([(from_ : Int)]) ++ r4)], (M.e_pure hM).symm, ⟨v52z, rfl⟩, H.pick [3, 2, 0, 9, 4, 5, 6, 7, 8] (by decide) rfl, rfl⟩
     replace hM := M.e_f hM c48z
     refine W.skip ?_
     exact ⟨q_b_s_met, [cBlk b_4 [.slice none 0 0] 34, cMap I B b_s_met q_b_s_met], (M.e_pure hM).symm, rfl, H.pick [2, 1, 8, 3, 4, 5, 6, 7] (by decide) rfl⟩
    replace H : St w w23z (cAll (cObj l20z (.loop r22z) :: [cBlk b_4 [.slice none 0 0] 34, cMap I B b_s_met (updF s_met (from_ : Int) true)]) :: [cMk (D21z :: ([])), cBlk nb0_6 [Pz b_s_web] 127, cBlk nb1_7 [I r10] 3, cBlk b_3 [I to_] 3, cBlk b_2 [I from_] 3, cBlk b_1 [Pz b_s] 160]) R := St.bundleB (A := cObj l20z (.loop r22z) :: [cBlk b_4 [.slice none 0 0] 34, cMap I B b_s_met (updF s_met (from_ : Int) true)]) (T := [cMk (D21z :: ([])), cBlk nb0_6 [Pz b_s_web] 127, cBlk nb1_7 [I r10] 3, cBlk b_3 [I to_] 3, cBlk b_2 [I from_] 3, cBlk b_1 [Pz b_s] 160]) rfl (H.pick [0, 2, 3, 1, 4, 5, 6, 7, 8] (by decide) rfl)
    refine (notes_web_made_1_ok (M.yl (m_notes_search_on_b0 s_web_list_works s_enters from_ to_ (M.fixN m_notes_search_on_F n_))) (.inl (updF s_met (from_ : Int) true)) s_web_list_works r10 hYC ⟨_, rfl, rfl⟩ (hC_s_web_list_works.app _) hs_s_web_list_works (h_b_s_web.app _) (Has.here (k := 1) rfl) (Has.here (k := 2) rfl) hx19z _ (St.give (A := [cAll (cObj l20z (.loop r22z) :: [cBlk b_4 [.slice none 0 0] 34, cMap I B b_s_met (updF s_met (from_ : Int) true)])]) (T := [cMk (D21z :: ([])), cBlk nb0_6 [Pz b_s_web] 127, cBlk nb1_7 [I r10] 3, cBlk b_3 [I to_] 3, cBlk b_2 [I from_] 3, cBlk b_1 [Pz b_s] 160]) H rfl)).mono ?_
    rintro vq w55z ⟨t59z, Ls57z, hq60z, hvq, H2_, hY58z⟩
    subst hq60z
    replace H := H.back H2_ rfl
    clear H2_ hYC
    rcases t59z with mp | ⟨l, mp2⟩
    ·try dsimp only at hM
     obtain ⟨_, rfl, rfl⟩ := hY58z
     refine ⟨_, [cBlk b_4 [.slice none 0 0] 34, cMap I B b_s_met mp, cBlk nb0_6 [Pz b_s_web] 127, cBlk nb1_7 [I r10] 3, cBlk b_3 [I to_] 3, cBlk b_2 [I from_] 3, cBlk b_1 [Pz b_s] 160], H.unbundle.pick [0, 3, 1, 2, 4, 5, 6, 7, 8] (by decide) rfl, hr24z.nb, ?_⟩
     intro w56z H
     rw [hr24z.pd]
     replace H : St w w56z [cMk (D21z :: ([])), cBlk b_4 [.slice none 0 0] 34, cMap I B b_s_met mp, cBlk nb0_6 [Pz b_s_web] 127, cBlk nb1_7 [I r10] 3, cBlk b_3 [I to_] 3, cBlk b_2 [I from_] 3, cBlk b_1 [Pz b_s] 160] R := H
     try simp only []
     refine WD.seq ?_
     refine WD.of ?_
     refine W.region rfl ?_
     refine t_st (k := 1) (b := b_4) (off := 0) (cs := [.slice none 0 0]) (vs := [.slice none 0 0]) (cs' := [.slice none 0 0]) (v := .slice none 0 0) (L' := [cMk (D21z :: ([])), cBlk b_4 [.slice none 0 0] 34, cMap I B b_s_met mp, cBlk nb0_6 [Pz b_s_web] 127, cBlk nb1_7 [I r10] 3, cBlk b_3 [I to_] 3, cBlk b_2 [I from_] 3, cBlk b_1 [Pz b_s] 160]) H rfl rfl rfl Sz34 rfl rfl rfl rfl rfl rfl ?_
     intro w61z H
     refine s_nil ?_
     refine WD.of ?_
     refine W.ret ?_
     refine bodyD_r (H.pick [0, 1, 2, 3, 4, 5, 6, 7] (by decide) rfl) ?_
     intro w62z H
     replace H : St w w62z [cBlk b_4 [.slice none 0 0] 34, cMap I B b_s_met mp, cBlk nb0_6 [Pz b_s_web] 127, cBlk nb1_7 [I r10] 3, cBlk b_3 [I to_] 3, cBlk b_2 [I from_] 3, cBlk b_1 [Pz b_s] 160] R := H
     have hb63z := (H.blk (k := 0) rfl)
     have hr_ := M.e_pure hM
     replace H : St w w62z [cOwn (α := Int) 3 (.slice none 0 0) ([]), cBlk b_4 [.slice none 0 0] 34, cMap I B b_s_met mp, cBlk nb0_6 [Pz b_s_web] 127, cBlk nb1_7 [I r10] 3, cBlk b_3 [I to_] 3, cBlk b_2 [I from_] 3, cBlk b_1 [Pz b_s] 160] R := H.nilOwn (α := Int) 3
     exact ⟨_, (resE_of1 (v := .slice none 0 0) rfl (.cell (v := .slice none 0 0) rfl (run_loadVar_sc Sc34 hb63z rfl) <| .nil)), ⟨([]), mp, (.slice none 0 0), hr_, rfl, (H.pick [0, 2] (by decide) rfl), (fun _ => rfl)⟩⟩
    try dsimp only at hM
    obtain ⟨_, rfl, v_o_9, rfl⟩ := hY58z
    refine ⟨_, [cBlk b_4 [v_o_9] 34, cMap I B b_s_met mp2, cOwn (α := Int) 3 v_o_9 l, cBlk nb0_6 [Pz b_s_web] 127, cBlk nb1_7 [I r10] 3, cBlk b_3 [I to_] 3, cBlk b_2 [I from_] 3, cBlk b_1 [Pz b_s] 160], H.unbundle.pick [0, 4, 1, 2, 3, 5, 6, 7, 8, 9] (by decide) rfl, nofun, ?_⟩
    intro w56z H
    show WD _ _ _ (.ret) _ _ _
    refine WD.of ?_
    refine W.ret ?_
    replace H : St w w56z [cMk (D21z :: ([])), cBlk b_4 [v_o_9] 34, cMap I B b_s_met mp2, cOwn (α := Int) 3 v_o_9 l, cBlk nb0_6 [Pz b_s_web] 127, cBlk nb1_7 [I r10] 3, cBlk b_3 [I to_] 3, cBlk b_2 [I from_] 3, cBlk b_1 [Pz b_s] 160] R := H
    refine bodyD_r (H.pick [0, 1, 2, 3, 4, 5, 6, 7, 8] (by decide) rfl) ?_
    intro w64z H
    replace H : St w w64z [cBlk b_4 [v_o_9] 34, cMap I B b_s_met mp2, cOwn (α := Int) 3 v_o_9 l, cBlk nb0_6 [Pz b_s_web] 127, cBlk nb1_7 [I r10] 3, cBlk b_3 [I to_] 3, cBlk b_2 [I from_] 3, cBlk b_1 [Pz b_s] 160] R := H
    have hb65z := (H.blk (k := 0) rfl)
    obtain ⟨sd66z, hM⟩ := M.e_grd hM
    simp only [decide_eq_true_eq] at sd66z
    have hr_ := M.e_pure hM
    exact ⟨_, (resE_of1 (v := v_o_9) rfl (.cell (v := v_o_9) rfl (run_loadVar_sc Sc34 hb65z rfl) <| .nil)), ⟨l, mp2, v_o_9, hr_, rfl, (H.pick [2, 1] (by decide) rfl), (fun h_ => by rw [h_] at sd66z; simp at sd66z)⟩⟩
theorem notes_search_on_ok {R : List Chunk} {b_s : Nat} {b_s_web : Nat} {C_s_web_list_works : Cells} {v_s_web_list_works : Value} {v_s_enters : Value} {b_s_met : Nat} (s_web_list_works : List Work) (s_enters : Int → M Bool) (s_met : Int → Option Bool) (from_ : Int) (to_ : Int) (hC_s_web_list_works : Reads R C_s_web_list_works) (hs_s_web_list_works : Sl C_s_web_list_works v_s_web_list_works s_web_list_works) (h_b_s_web : Has R (cBlk b_s_web [v_s_web_list_works] 187)) (hf_s_enters : FnM Try.prog R v_s_enters s_enters) (h_b_s : Has R (cBlk b_s [Pz b_s_web, v_s_enters, .map (some b_s_met)] 211)) {r : ((List Int) × (Int → Option Bool))} (hM : (m_notes_search_on s_web_list_works s_enters s_met from_ to_).Ends r) (w : World) (H : St w w [cMap I B b_s_met s_met] R) : Ret Try.prog 150 #[Pz b_s, I from_, I to_] w fun v w' => ∃ (y0 : List Int) (y1 : Int → Option Bool) (u0 : Value), (y0, y1) = r ∧ v = u0 ∧ St w w' [cOwn (α := Int) 3 u0 y0, cMap I B b_s_met y1] R ∧ (y0 = [] → u0 = .slice none 0 0) := by
  obtain ⟨n_, hM⟩ := M.e_fix hM
  exact notes_search_on_okN n_ s_web_list_works s_enters s_met from_ to_ hC_s_web_list_works hs_s_web_list_works h_b_s_web hf_s_enters h_b_s hM w H

def m_notes_search_line (s_web_list_works : List Work) (s_enters : Int → M Bool) (s_met : Int → Option Bool) (from_ : Int) (to_ : Int) : M ((List Int) × (Int → Option Bool)) :=
  M.bind (m_notes_search_on s_web_list_works s_enters (fun _ => none) from_ to_) fun (r2, q_b_s_met) =>
  M.pure (r2, q_b_s_met)
theorem notes_search_line_ok {R : List Chunk} {b_s : Nat} {b_s_web : Nat} {C_s_web_list_works : Cells} {v_s_web_list_works : Value} {v_s_enters : Value} {b_s_met : Nat} (s_web_list_works : List Work) (s_enters : Int → M Bool) (s_met : Int → Option Bool) (from_ : Int) (to_ : Int) (hC_s_web_list_works : Reads R C_s_web_list_works) (hs_s_web_list_works : Sl C_s_web_list_works v_s_web_list_works s_web_list_works) (h_b_s_web : Has R (cBlk b_s_web [v_s_web_list_works] 187)) (hf_s_enters : FnM Try.prog R v_s_enters s_enters) (h_b_s : Has R (cBlk b_s [Pz b_s_web, v_s_enters, .map (some b_s_met)] 211)) {r : ((List Int) × (Int → Option Bool))} (hM : (m_notes_search_line s_web_list_works s_enters s_met from_ to_).Ends r) (w : World) (H : St w w [cMap I B b_s_met s_met] R) : Ret Try.prog 110 #[Pz b_s, I from_, I to_] w fun v w' => ∃ (y0 : List Int) (y1 : Int → Option Bool) (u0 : Value), (y0, y1) = r ∧ v = u0 ∧ St w w' [cOwn (α := Int) 3 u0 y0, cMap I B b_s_met y1] R ∧ (y0 = [] → u0 = .slice none 0 0) := by
 refine ret_of_W Try.func110 rfl rfl rfl ?_
 refine sQ rfl <| sA (.slice none 0 0) rfl <| s_nil <| sQ rfl <| sM (Pz b_s) rfl <| s_val (x_nc (a := ⟨b_s, 0, none⟩) rfl) <| s_val (x_fa (a := Pz b_s) (v := Oz b_s 2) rfl (fa_blk (o := 0) Fd211_2 Sz178)) <| s_val (x_ld (p := Oz b_s 2) (v := .map (some b_s_met)) rfl (ldb_sc Sc178 (h_b_s.blk H) rfl)) ?_
 refine t_clearm (i := 0) (kenc := I) (venc := B) (f := s_met) (L' := [cMap I B b_s_met (fun _ => none)]) (by rw [show (#[178] : Array TypeId)[0]?.bind Try.prog.underlying = Try.prog.underlying 178 from rfl, Try.underlying178]; rfl) H rfl rfl rfl ?_
 intro w1z H
 refine s_nil <| sQ rfl <| sM (Pz b_s) rfl <| sM (I from_) rfl <| sM (I to_) rfl ?_
 obtain ⟨r3z, hx2z, hM⟩ := M.e_bind hM
 refine s_call cf150 [Pz b_s, I from_, I to_] rfl (notes_search_on_ok s_web_list_works s_enters (fun _ => none) from_ to_ (hC_s_web_list_works.app _) hs_s_web_list_works (h_b_s_web.app _) (hf_s_enters.app _) (h_b_s.app _) hx2z _ (St.give (T := []) H rfl)) ?_
 rintro vq w4z ⟨r2, q_b_s_met, u0_1, hr5z, hvq, H2_, hf6z⟩
 subst hr5z
 subst vq
 try dsimp only at hM
 replace H : St w w4z [cOwn (α := Int) 3 u0_1 r2, cMap I B b_s_met q_b_s_met] R := H.back H2_ rfl
 clear H2_
 refine sA u0_1 rfl <| s_nil ?_
 refine W.ret ?_
 have hr_ := M.e_pure hM
 exact ⟨_, resE_tmp rfl, ⟨r2, q_b_s_met, u0_1, hr_, rfl, H, hf6z⟩⟩

def m_notes_Line (w_ : List Work) (from_ : Int) (to_ : Int) : M ((List Int) × Int) :=
  bif (openedE w_ == 0) then (
  bif (0 : Int) != 0 then (M.fail) else (bif ((!(inB from_ 0 ((w_.length : Int) - 1))) || (!(inB to_ 0 ((w_.length : Int) - 1)))) then (
  M.pure (([]), 2))
  else (
  M.bind (m_notes_web_search w_ (fun xqz => m_notes_Line_1 xqz)) fun r2 =>
  M.bind (m_notes_search_line w_ (fun xqz => m_notes_Line_1 xqz) r2 from_ to_) fun (r3, q_b_s_met) =>
  bif !r3.isEmpty then (
  M.pure (r3, 0))
  else (
  M.pure (([]), 5)))))
  else (
  bif (openedE w_) != 0 then (
  M.pure (([]), (openedE w_)))
  else (
  bif ((!(inB from_ 0 ((w_.length : Int) - 1))) || (!(inB to_ 0 ((w_.length : Int) - 1)))) then (
  M.pure (([]), 2))
  else (
  M.fail)))
theorem notes_Line_ok {R : List Chunk} {C_w_ : Cells} {v_w_ : Value} (w_ : List Work) (from_ : Int) (to_ : Int) (hC_w_ : Reads R C_w_) (hs_w_ : Sl C_w_ v_w_ w_) {r : ((List Int) × Int)} (hM : (m_notes_Line w_ from_ to_).Ends r) (w : World) (H : St w w [] R) : Ret Try.prog 53 #[v_w_, I from_, I to_] w fun v w' => ∃ (y0 : List Int) (y1 : Int) (u0 : Value), (y0, y1) = r ∧ v = .tuple #[u0, I y1] ∧ St w w' [cOwn (α := Int) 3 u0 y0] R := by
 refine ret_of_W Try.func53 rfl rfl rfl ?_
 refine sQ rfl <| sA (.slice none 0 0) rfl <| sA (I 0) rfl <| s_nil <| sQ rfl <| sM v_w_ rfl ?_
 refine s_call cf81 [v_w_] rfl (opened_any _ (hs_w_.mono (hC_w_.at H))) ?_
 rintro _ w1z (⟨he_, rfl, hx_⟩ | ⟨he_, b_1, u2z, rfl, hn_, hs3z⟩)
 ·replace hM := M.e_f hM (by simpa using he_)
  replace H : St w w1z [] R := H.ext hx_
  clear hx_
  refine sM (.tuple #[.pointer none, .slice none 0 0, I (openedE w_)]) rfl <| sX [.pointer none, .slice none 0 0, I (openedE w_)] (.pointer none) rfl rfl <| sX [.pointer none, .slice none 0 0, I (openedE w_)] (.slice none 0 0) rfl rfl <| sX [.pointer none, .slice none 0 0, I (openedE w_)] (I (openedE w_)) rfl rfl <| sA (.pointer none) rfl <| sA (.slice none 0 0) rfl <| sA (I (openedE w_)) rfl <| s_nil <| W.seq <| W.block <| sQ rfl ?_
  refine sM (I (openedE w_)) rfl <| sC (openedE w_) 0 ((openedE w_) != 0) rfl rfl rfl <| sA (B ((openedE w_) != 0)) rfl <| s_nil ?_
  refine W.cond ((openedE w_) != 0) rfl (fun c4z => ?_) (fun c4z => ?_)
  ·replace hM := M.e_t hM c4z
   simp only [qz1, qz2, qz3, qz4, qz5, qz6, ne_eq, qz7] at c4z
   refine sQ rfl <| sM (I (openedE w_)) rfl <| sA (.slice none 0 0) rfl <| sA (I (openedE w_)) rfl <| s_nil ?_
   refine W.ret ?_
   have hr_ := M.e_pure hM
   replace H : St w w1z [cOwn (α := Int) 3 (.slice none 0 0) ([])] R := H.nilOwn (α := Int) 3
   exact ⟨_, resE_tmp2 rfl, ⟨([]), (openedE w_), (.slice none 0 0), hr_, rfl, H⟩⟩
  replace hM := M.e_f hM c4z
  simp only [qz1, qz2, qz3, qz4, qz5, qz6, ne_eq, qz7] at c4z
  refine sQ rfl <| sM (I from_) rfl <| sM v_w_ rfl ?_
  have hl5z := (hs_w_).len_le
  refine s_val (x_lenS T22.und rfl hs_w_) <| sR (w_.length : Int) 1 ((w_.length : Int) - 1) rfl rfl rfl (by omega) ?_
  refine s_call cf84 [I from_, I 0, I ((w_.length : Int) - 1)] rfl (in_any from_ 0 ((w_.length : Int) - 1) _) ?_
  rintro _ w6z ⟨rfl, hx_⟩
  replace H : St w w6z [] R := H.ext hx_
  clear hx_
  refine s_val (x_not (b := inB from_ 0 ((w_.length : Int) - 1)) rfl) <| sM (B (!(inB from_ 0 ((w_.length : Int) - 1)))) rfl <| g_val (!(!(inB from_ 0 ((w_.length : Int) - 1)))) (gy_f rfl) (fun hg => x_mv (v := I to_) rfl) <| g_val (!(!(inB from_ 0 ((w_.length : Int) - 1)))) (gy_f rfl) (fun hg => x_mv (v := v_w_) rfl) <| g_val (!(!(inB from_ 0 ((w_.length : Int) - 1)))) (gy_f rfl) (fun hg => x_lenS T22.und (gd_of (c := !(!(inB from_ 0 ((w_.length : Int) - 1)))) hg (v_w_)) hs_w_) <| g_val (!(!(inB from_ 0 ((w_.length : Int) - 1)))) (gy_f rfl) (fun hg => x_ari (a := (w_.length : Int)) (b := 1) (r := (w_.length : Int) - 1) (gd_of (c := !(!(inB from_ 0 ((w_.length : Int) - 1)))) hg (I (w_.length : Int))) rfl rfl (by first | omega | (have hx_ := hg; simp at hx_; omega))) ?_
  refine t_gcall (!(!(inB from_ 0 ((w_.length : Int) - 1)))) (gy_f rfl) cf84 (B (inB to_ 0 ((w_.length : Int) - 1))) (fun _ => [I to_, I 0, I ((w_.length : Int) - 1)]) (fun hg => lst3 (gd_of (c := !(!(inB from_ 0 ((w_.length : Int) - 1)))) hg (I to_)) rfl (gd_of (c := !(!(inB from_ 0 ((w_.length : Int) - 1)))) hg (I ((w_.length : Int) - 1)))) H (fun hg => Ret.mono (in_any to_ 0 ((w_.length : Int) - 1) _) fun v_ w_ ⟨hv_, hx_⟩ => ⟨hv_, H.ext hx_⟩) ?_
  intro w8z H
  refine g_val (!(!(inB from_ 0 ((w_.length : Int) - 1)))) (gy_f rfl) (fun hg => x_not (b := inB to_ 0 ((w_.length : Int) - 1)) (gd_of (c := !(!(inB from_ 0 ((w_.length : Int) - 1)))) hg (B (inB to_ 0 ((w_.length : Int) - 1))))) <| s_val (x_por (b := !(inB from_ 0 ((w_.length : Int) - 1))) (r := !(inB to_ 0 ((w_.length : Int) - 1))) rfl rfl (fun hb => gd_of (c := !(!(inB from_ 0 ((w_.length : Int) - 1)))) (by first | exact hb | (rw [hb]; rfl) | simp_all) (B (!(inB to_ 0 ((w_.length : Int) - 1)))))) <| sA (B ((!(inB from_ 0 ((w_.length : Int) - 1))) || (!(inB to_ 0 ((w_.length : Int) - 1))))) rfl <| s_nil ?_
  refine W.cond ((!(inB from_ 0 ((w_.length : Int) - 1))) || (!(inB to_ 0 ((w_.length : Int) - 1)))) rfl (fun c9z => ?_) (fun c9z => ?_)
  ·replace hM := M.e_t hM c9z
   refine sQ rfl <| sA (.slice none 0 0) rfl <| sA (I 2) rfl <| s_nil ?_
   refine W.ret ?_
   have hr_ := M.e_pure hM
   replace H : St w w8z [cOwn (α := Int) 3 (.slice none 0 0) ([])] R := H.nilOwn (α := Int) 3
   exact ⟨_, resE_tmp2 rfl, ⟨([]), 2, (.slice none 0 0), hr_, rfl, H⟩⟩
  replace hM := M.e_f hM c9z
  refine W.skip <| sQ rfl <| sM (.pointer none) rfl ?_
  exact (M.e_fail hM).elim
 replace hM := M.e_t hM (by simpa using he_)
 obtain ⟨Bs_2, H2_, hs3z, hb_b_1⟩ := H.freshNB hn_ hs3z
 replace H : St w w1z [cRo Bs_2] R := H2_
 clear H2_ hn_
 have hl_hs3z := hs3z.len_le
 refine sM (.tuple #[Pz b_1, u2z, I 0]) rfl <| sX [Pz b_1, u2z, I 0] (Pz b_1) rfl rfl <| sX [Pz b_1, u2z, I 0] u2z rfl rfl <| sX [Pz b_1, u2z, I 0] (I 0) rfl rfl <| sA (Pz b_1) rfl <| sA u2z rfl <| sA (I 0) rfl <| s_nil <| W.seq <| W.block <| sQ rfl ?_
 refine sM (I 0) rfl <| sC 0 0 ((0 : Int) != 0) rfl rfl rfl <| sA (B ((0 : Int) != 0)) rfl <| s_nil ?_
 refine W.cond ((0 : Int) != 0) rfl (fun c10z => ?_) (fun c10z => ?_)
 ·skip
  exact absurd c10z (by decide)
 skip
 replace hM := M.e_f hM c10z
 refine sQ rfl <| sM (I from_) rfl <| sM v_w_ rfl ?_
 have hl11z := (hs_w_).len_le
 refine s_val (x_lenS T22.und rfl hs_w_) <| sR (w_.length : Int) 1 ((w_.length : Int) - 1) rfl rfl rfl (by omega) ?_
 refine s_call cf84 [I from_, I 0, I ((w_.length : Int) - 1)] rfl (in_any from_ 0 ((w_.length : Int) - 1) _) ?_
 rintro _ w12z ⟨rfl, hx_⟩
 replace H : St w w12z [cRo Bs_2] R := H.ext hx_
 clear hx_
 refine s_val (x_not (b := inB from_ 0 ((w_.length : Int) - 1)) rfl) <| sM (B (!(inB from_ 0 ((w_.length : Int) - 1)))) rfl <| g_val (!(!(inB from_ 0 ((w_.length : Int) - 1)))) (gy_f rfl) (fun hg => x_mv (v := I to_) rfl) <| g_val (!(!(inB from_ 0 ((w_.length : Int) - 1)))) (gy_f rfl) (fun hg => x_mv (v := v_w_) rfl) <| g_val (!(!(inB from_ 0 ((w_.length : Int) - 1)))) (gy_f rfl) (fun hg => x_lenS T22.und (gd_of (c := !(!(inB from_ 0 ((w_.length : Int) - 1)))) hg (v_w_)) hs_w_) <| g_val (!(!(inB from_ 0 ((w_.length : Int) - 1)))) (gy_f rfl) (fun hg => x_ari (a := (w_.length : Int)) (b := 1) (r := (w_.length : Int) - 1) (gd_of (c := !(!(inB from_ 0 ((w_.length : Int) - 1)))) hg (I (w_.length : Int))) rfl rfl (by first | omega | (have hx_ := hg; simp at hx_; omega))) ?_
 refine t_gcall (!(!(inB from_ 0 ((w_.length : Int) - 1)))) (gy_f rfl) cf84 (B (inB to_ 0 ((w_.length : Int) - 1))) (fun _ => [I to_, I 0, I ((w_.length : Int) - 1)]) (fun hg => lst3 (gd_of (c := !(!(inB from_ 0 ((w_.length : Int) - 1)))) hg (I to_)) rfl (gd_of (c := !(!(inB from_ 0 ((w_.length : Int) - 1)))) hg (I ((w_.length : Int) - 1)))) H (fun hg => Ret.mono (in_any to_ 0 ((w_.length : Int) - 1) _) fun v_ w_ ⟨hv_, hx_⟩ => ⟨hv_, H.ext hx_⟩) ?_
 intro w14z H
 refine g_val (!(!(inB from_ 0 ((w_.length : Int) - 1)))) (gy_f rfl) (fun hg => x_not (b := inB to_ 0 ((w_.length : Int) - 1)) (gd_of (c := !(!(inB from_ 0 ((w_.length : Int) - 1)))) hg (B (inB to_ 0 ((w_.length : Int) - 1))))) <| s_val (x_por (b := !(inB from_ 0 ((w_.length : Int) - 1))) (r := !(inB to_ 0 ((w_.length : Int) - 1))) rfl rfl (fun hb => gd_of (c := !(!(inB from_ 0 ((w_.length : Int) - 1)))) (by first | exact hb | (rw [hb]; rfl) | simp_all) (B (!(inB to_ 0 ((w_.length : Int) - 1)))))) <| sA (B ((!(inB from_ 0 ((w_.length : Int) - 1))) || (!(inB to_ 0 ((w_.length : Int) - 1))))) rfl <| s_nil ?_
 refine W.cond ((!(inB from_ 0 ((w_.length : Int) - 1))) || (!(inB to_ 0 ((w_.length : Int) - 1)))) rfl (fun c15z => ?_) (fun c15z => ?_)
 ·replace hM := M.e_t hM c15z
  refine sQ rfl <| sA (.slice none 0 0) rfl <| sA (I 2) rfl <| s_nil ?_
  refine W.ret ?_
  have hr_ := M.e_pure hM
  replace H : St w w14z [cOwn (α := Int) 3 (.slice none 0 0) ([]), cRo Bs_2] R := H.nilOwn (α := Int) 3
  exact ⟨_, resE_tmp2 rfl, ⟨([]), 2, (.slice none 0 0), hr_, rfl, (H.pick [0] (by decide) rfl)⟩⟩
 replace hM := M.e_f hM c15z
 refine W.skip <| sQ rfl <| sM (Pz b_1) rfl ?_
 obtain ⟨r17z, hx16z, hM⟩ := M.e_bind hM
 refine s_call cf108 [Pz b_1, .func (.func 109) #[] #[]] rfl (notes_web_search_ok w_ (fun xqz => m_notes_Line_1 xqz) (hC_w_.app _) hs_w_ (Has.ro (k := 0) rfl hb_b_1) ⟨109, [], rfl, cf109, fun wqz Lqz Cqz vqz xqz bqz hsqz hCqz hAqz hpqz => by obtain rfl := Arg.int hAqz; exact (notes_Line_1_ok xqz hpqz wqz (St.refl hsqz)).mono fun vqz wqz ⟨yqz, hrqz, hvqz, Hqz⟩ => by subst hrqz; exact ⟨hvqz, Hqz⟩⟩ hx16z _ (St.give (T := [cRo Bs_2]) H rfl)) ?_
 rintro vq w18z ⟨r2, nb0_3, nb1_4, hr19z, hvq, H2_⟩
 subst hr19z
 subst vq
 try dsimp only at hM
 replace H : St w w18z [cBlk nb0_3 [Pz b_1, .func (.func 109) #[] #[], .map (some nb1_4)] 211, cMap I B nb1_4 r2, cRo Bs_2] R := H.back H2_ rfl
 clear H2_
 refine sA (Pz nb0_3) rfl <| s_nil <| W.seq <| sQ rfl <| sM (Pz nb0_3) rfl <| sM (I from_) rfl <| sM (I to_) rfl ?_
 obtain ⟨r21z, hx20z, hM⟩ := M.e_bind hM
 refine s_call cf110 [Pz nb0_3, I from_, I to_] rfl (notes_search_line_ok w_ (fun xqz => m_notes_Line_1 xqz) r2 from_ to_ (hC_w_.app _) hs_w_ (Has.ro (k := 1) rfl hb_b_1) ⟨109, [], rfl, cf109, fun wqz Lqz Cqz vqz xqz bqz hsqz hCqz hAqz hpqz => by obtain rfl := Arg.int hAqz; exact (notes_Line_1_ok xqz hpqz wqz (St.refl hsqz)).mono fun vqz wqz ⟨yqz, hrqz, hvqz, Hqz⟩ => by subst hrqz; exact ⟨hvqz, Hqz⟩⟩ (Has.here (k := 0) rfl) hx20z _ (St.give (L := [cMap I B nb1_4 r2, cBlk nb0_3 [Pz b_1, .func (.func 109) #[] #[], .map (some nb1_4)] 211, cRo Bs_2]) (A := [cMap I B nb1_4 r2]) (T := [cBlk nb0_3 [Pz b_1, .func (.func 109) #[] #[], .map (some nb1_4)] 211, cRo Bs_2]) (H.pick [1, 0, 2] (by decide) rfl) rfl)) ?_
 rintro vq w22z ⟨r3, q_b_s_met, u0_5, hr23z, hvq, H2_, hf24z⟩
 subst hr23z
 subst vq
 try dsimp only at hM
 replace H : St w w22z [cOwn (α := Int) 3 u0_5 r3, cMap I B nb1_4 q_b_s_met, cBlk nb0_3 [Pz b_1, .func (.func 109) #[] #[], .map (some nb1_4)] 211, cRo Bs_2] R := H.pick [1, 0, 2] (by decide) rfl |>.back H2_ rfl
 clear H2_
 refine sA u0_5 rfl <| s_nil <| sQ rfl <| sM u0_5 rfl <| s_val (x_nenil (α := Int) T34.und rfl rfl (ownSl (H.get (k := 0) rfl)) hf24z) <| s_nil ?_
 refine W.cond (!r3.isEmpty) rfl (fun c25z => ?_) (fun c25z => ?_)
 ·replace hM := M.e_t hM c25z
  refine sQ rfl <| sM u0_5 rfl <| sA u0_5 rfl <| sA (I 0) rfl <| s_nil ?_
  refine W.ret ?_
  have hr_ := M.e_pure hM
  exact ⟨_, resE_tmp2 rfl, ⟨r3, 0, u0_5, hr_, rfl, (H.pick [0] (by decide) rfl)⟩⟩
 replace hM := M.e_f hM c25z
 refine W.skip <| sQ rfl <| sA (.slice none 0 0) rfl <| sA (I 5) rfl <| s_nil ?_
 refine W.ret ?_
 have hr_ := M.e_pure hM
 replace H : St w w22z [cOwn (α := Int) 3 (.slice none 0 0) ([]), cOwn (α := Int) 3 u0_5 r3, cMap I B nb1_4 q_b_s_met, cBlk nb0_3 [Pz b_1, .func (.func 109) #[] #[], .map (some nb1_4)] 211, cRo Bs_2] R := H.nilOwn (α := Int) 3
 exact ⟨_, resE_tmp2 rfl, ⟨([]), 5, (.slice none 0 0), hr_, rfl, (H.pick [0] (by decide) rfl)⟩⟩

end Go.Proofs.Ytndobgodeicloaa
end
