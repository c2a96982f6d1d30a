/- Part 5 of the texts on which the proof rests. Conditions: none. -/
import Derived.Laws.Cover3
import Derived.Test.YtndobgodeicloaaZ4
set_option linter.unusedVariables false
set_option linter.unusedSimpArgs false
set_option linter.unusedSectionVars false
section
set_option maxRecDepth 100000
set_option maxHeartbeats 16000000
namespace Go.Proofs.Ytndobgodeicloaa
open Go Go.Nm
def m_nilometerlaw13_awake : M Bool :=
  M.bind (m_nilometerlaw13_Six) fun r2 =>
  M.bind (M.pure (valuesR r2 ([(⟨(0 : Int), (2 : Int), (7 : Int)⟩ : Note), (⟨(1 : Int), (0 : Int), (9 : Int)⟩ : Note)]), valuesE r2 ([(⟨(0 : Int), (2 : Int), (7 : Int)⟩ : Note), (⟨(1 : Int), (0 : Int), (9 : Int)⟩ : Note)]))) fun (l, e) =>
  M.bind (m_nilometerlaw13_Six) fun r3 =>
  M.bind (M.pure (staleR r3 ([(0 : Int)]), askedE r3 ([(0 : Int)]))) fun (l2, e2) =>
  M.bind (m_nilometerlaw13_Six) fun r4 =>
  M.bind (M.pure (readyR r4 ([(1 : Int)]), askedE r4 ([(1 : Int)]))) fun (l3, e3) =>
  M.bind (m_nilometerlaw13_Six) fun r5 =>
  M.bind (M.pure (longestR r5 ([(0 : Int)]), longestE r5 ([(0 : Int)]))) fun (l4, e4) =>
  M.bind (M.pure (decide (l = ([(7 : Int), (9 : Int), (26 : Int), (10 : Int), (47 : Int), (48 : Int)])))) fun s =>
  M.bind (M.pure (decide (l2 = ([(0 : Int), (2 : Int), (4 : Int), (5 : Int)])))) fun s2 =>
  M.bind (M.pure (decide (l3 = ([(-1 : Int), (6 : Int), (16 : Int), (36 : Int), (56 : Int), (57 : Int)])))) fun s3 =>
  M.bind (M.pure (decide (l4 = ([(0 : Int), (2 : Int), (4 : Int), (5 : Int)])))) fun s4 =>
  bif ((((((((e != 0) || (e2 != 0)) || (e3 != 0)) || (e4 != 0)) || (!s)) || (!s2)) || (!s3)) || (!s4)) then (
  M.pure false)
  else (
  M.bind (m_nilometerlaw13_Six) fun r6 =>
  M.bind (m_notes_Fences r6 ([(0 : Int)]) ([(0 : Int), (2 : Int), (4 : Int), (5 : Int)])) fun (r0, r1) =>
  M.bind (m_nilometerlaw13_Six) fun r7 =>
  M.bind (m_notes_Fences r7 ([(0 : Int)]) ([(0 : Int), (2 : Int), (4 : Int)])) fun (r02, r12) =>
  M.bind (m_nilometerlaw13_Six) fun r8 =>
  M.bind (m_notes_Freeze r8 ([(1 : Int)]) 4) fun (r03, r13) =>
  M.bind (m_nilometerlaw13_Six) fun r9 =>
  M.bind (m_notes_Lines r9 ([(1 : Int)]) 4) fun (r04, r14) =>
  M.bind (m_nilometerlaw13_Six) fun r10 =>
  M.bind (m_notes_Freeze r10 ([(1 : Int)]) 3) fun (r05, r15) =>
  M.bind (M.pure (decide (r03 = ([(2 : Int), (3 : Int)])))) fun s5 =>
  bif (((((((((r1 != 0) || (r12 != 0)) || (r13 != 0)) || (r14 != 0)) || (r15 != 5)) || (!r0)) || r02) || (!s5)) || ((r04.length : Int) != 2)) then (
  M.pure false)
  else (
  M.bind (m_nilometerlaw13_Six) fun r11 =>
  M.bind (M.pure (withdrawnR r11 ([(⟨(0 : Int), (3 : Int), (8 : Int)⟩ : Note), (⟨(0 : Int), (2 : Int), (7 : Int)⟩ : Note), (⟨(1 : Int), (0 : Int), (9 : Int)⟩ : Note)]) ([(⟨(2 : Int), (26 : Int)⟩ : Pub), (⟨(3 : Int), (10 : Int)⟩ : Pub)]), withdrawnE r11 ([(⟨(0 : Int), (3 : Int), (8 : Int)⟩ : Note), (⟨(0 : Int), (2 : Int), (7 : Int)⟩ : Note), (⟨(1 : Int), (0 : Int), (9 : Int)⟩ : Note)]) ([(⟨(2 : Int), (26 : Int)⟩ : Pub), (⟨(3 : Int), (10 : Int)⟩ : Pub)]))) fun (l5, e5) =>
  M.bind (M.pure (decide (l5 = ([(0 : Int)])))) fun s6 =>
  M.pure ((e5 == 0) && s6)))
theorem nilometerlaw13_awake_ok {R : List Chunk}    {r : Bool} (hM : (m_nilometerlaw13_awake).Ends r) (w : World) (H : St w w [] R) : Ret Try.prog 17 #[] w fun v w' => ∃ (y0 : Bool), y0 = r ∧ v = B y0 ∧ St w w' [] R := by
 refine ret_of_W Try.func17 rfl rfl rfl ?_
 refine sQ rfl <| sA (B false) rfl <| s_nil <| sQ rfl ?_
 obtain ⟨r2z, hx1z, hM⟩ := M.e_bind hM
 refine s_call cf79 [] rfl (nilometerlaw13_Six_ok hx1z _ (St.give (T := []) H rfl)) ?_
 rintro vq w3z ⟨r2, u0_1, rr1_2, Bs2_3, hr4z, hvq, H2_, hf5z⟩
 subst hr4z
 subst vq
 try dsimp only at hM
 replace H : St w w3z [cOwn (α := Raw 2) 60 u0_1 rr1_2, cRo Bs2_3] R := H.back H2_ rfl
 clear H2_
 refine s_val (x_bld (ps := [(0, I 0), (1, I 2), (2, I 7)]) (zs := [I 0, I 0, I 0]) (L' := [I 0, I 2, I 7]) rfl Try.underlying30 Al30 rfl (Bd30 Try.underlying30) (.cons (cs := [I 0]) rfl rfl rfl rfl rfl <| .cons (cs := [I 2]) rfl rfl rfl rfl rfl <| .cons (cs := [I 7]) rfl rfl rfl rfl rfl <| .nil)) <| s_val (x_bld (ps := [(0, I 1), (2, I 9)]) (zs := [I 0, I 0, I 0]) (L' := [I 1, I 0, I 9]) rfl Try.underlying30 Al30 rfl (Bd30 Try.underlying30) (.cons (cs := [I 1]) rfl rfl rfl rfl rfl <| .cons (cs := [I 9]) rfl rfl rfl rfl rfl <| .nil)) ?_
 refine t_bs (α := Note) T23 [.agg #[I 0, I 2, I 7], .agg #[I 1, I 0, I 9]] [(⟨(0 : Int), (2 : Int), (7 : Int)⟩ : Note), (⟨(1 : Int), (0 : Int), (9 : Int)⟩ : Note)] H rfl (.cons rfl (Flat.rep_enc _ (⟨(0 : Int), (2 : Int), (7 : Int)⟩ : Note)) <| .cons rfl (Flat.rep_enc _ (⟨(1 : Int), (0 : Int), (9 : Int)⟩ : Note)) <| .nil) rfl rfl rfl ?_
 intro v6z w7z H
 obtain ⟨⟨l, e⟩, hx11z, hM⟩ := M.e_bind hM
 obtain ⟨hq12z, hq13z⟩ := Prod.mk.inj (M.e_pure hx11z)
 try dsimp only at hM
 refine s_call cf21 [u0_1, v6z] rfl (by have hc_ := (Values_any _ ((rowSl rfl (H.get (k := 1) rfl) (roLe _ (H.get (k := 2) rfl)) hf5z).mono (Cells.sup_le (ownLe _ (H.get (k := 1) rfl)) (roLe _ (H.get (k := 2) rfl)))) ((ownSl (H.get (k := 0) rfl)).mono (ownLe _ (H.get (k := 0) rfl)))); rw [hq12z, hq13z] at hc_; exact hc_) ?_
 rintro _ w8z ⟨u9z, rfl, hs10z, hx_⟩
 obtain ⟨Bs_5, H, hs10z⟩ := H.fresh hx_ hs10z
 clear hx_
 have hl_hs10z := hs10z.len_le
 refine sM (.tuple #[u9z, I e]) rfl <| sX [u9z, I e] u9z rfl rfl <| sX [u9z, I e] (I e) rfl rfl <| sA u9z rfl <| sA (I e) rfl <| s_nil <| sQ rfl ?_
 obtain ⟨r15z, hx14z, hM⟩ := M.e_bind hM
 refine s_call cf79 [] rfl (nilometerlaw13_Six_ok hx14z _ (St.give (T := [cRo Bs_5, cOwn (α := Note) 30 v6z ([(⟨(0 : Int), (2 : Int), (7 : Int)⟩ : Note), (⟨(1 : Int), (0 : Int), (9 : Int)⟩ : Note)]), cOwn (α := Raw 2) 60 u0_1 rr1_2, cRo Bs2_3]) H rfl)) ?_
 rintro vq w16z ⟨r3, u0_6, rr1_7, Bs2_8, hr17z, hvq, H2_, hf18z⟩
 subst hr17z
 subst vq
 try dsimp only at hM
 replace H : St w w16z [cOwn (α := Raw 2) 60 u0_6 rr1_7, cRo Bs2_8, cRo Bs_5, cOwn (α := Note) 30 v6z ([(⟨(0 : Int), (2 : Int), (7 : Int)⟩ : Note), (⟨(1 : Int), (0 : Int), (9 : Int)⟩ : Note)]), cOwn (α := Raw 2) 60 u0_1 rr1_2, cRo Bs2_3] R := H.back H2_ rfl
 clear H2_
 refine t_bs (α := Int) T34 [I 0] [(0 : Int)] H rfl (.cons rfl (Flat.rep_enc _ (0 : Int)) <| .nil) rfl rfl rfl ?_
 intro v19z w20z H
 obtain ⟨⟨l2, e2⟩, hx24z, hM⟩ := M.e_bind hM
 obtain ⟨hq25z, hq26z⟩ := Prod.mk.inj (M.e_pure hx24z)
 try dsimp only at hM
 refine s_call cf32 [u0_6, v19z] rfl (by have hc_ := (Stale_any _ ((rowSl rfl (H.get (k := 1) rfl) (roLe _ (H.get (k := 2) rfl)) hf18z).mono (Cells.sup_le (ownLe _ (H.get (k := 1) rfl)) (roLe _ (H.get (k := 2) rfl)))) ((ownSl (H.get (k := 0) rfl)).mono (ownLe _ (H.get (k := 0) rfl)))); rw [hq25z, hq26z] at hc_; exact hc_) ?_
 rintro _ w21z ⟨u22z, rfl, hs23z, hx_⟩
 obtain ⟨Bs_10, H, hs23z⟩ := H.fresh hx_ hs23z
 clear hx_
 have hl_hs23z := hs23z.len_le
 refine sM (.tuple #[u22z, I e2]) rfl <| sX [u22z, I e2] u22z rfl rfl <| sX [u22z, I e2] (I e2) rfl rfl <| sA u22z rfl <| sA (I e2) rfl <| s_nil <| sQ rfl ?_
 obtain ⟨r28z, hx27z, hM⟩ := M.e_bind hM
 refine s_call cf79 [] rfl (nilometerlaw13_Six_ok hx27z _ (St.give (T := [cRo Bs_10, cOwn (α := Int) 3 v19z ([(0 : Int)]), cOwn (α := Raw 2) 60 u0_6 rr1_7, cRo Bs2_8, cRo Bs_5, cOwn (α := Note) 30 v6z ([(⟨(0 : Int), (2 : Int), (7 : Int)⟩ : Note), (⟨(1 : Int), (0 : Int), (9 : Int)⟩ : Note)]), cOwn (α := Raw 2) 60 u0_1 rr1_2, cRo Bs2_3]) H rfl)) ?_
 rintro vq w29z ⟨r4, u0_11, rr1_12, Bs2_13, hr30z, hvq, H2_, hf31z⟩
 subst hr30z
 subst vq
 try dsimp only at hM
 replace H : St w w29z [cOwn (α := Raw 2) 60 u0_11 rr1_12, cRo Bs2_13, cRo Bs_10, cOwn (α := Int) 3 v19z ([(0 : Int)]), cOwn (α := Raw 2) 60 u0_6 rr1_7, cRo Bs2_8, cRo Bs_5, cOwn (α := Note) 30 v6z ([(⟨(0 : Int), (2 : Int), (7 : Int)⟩ : Note), (⟨(1 : Int), (0 : Int), (9 : Int)⟩ : Note)]), cOwn (α := Raw 2) 60 u0_1 rr1_2, cRo Bs2_3] R := H.back H2_ rfl
 clear H2_
 refine t_bs (α := Int) T34 [I 1] [(1 : Int)] H rfl (.cons rfl (Flat.rep_enc _ (1 : Int)) <| .nil) rfl rfl rfl ?_
 intro v32z w33z H
 obtain ⟨⟨l3, e3⟩, hx37z, hM⟩ := M.e_bind hM
 obtain ⟨hq38z, hq39z⟩ := Prod.mk.inj (M.e_pure hx37z)
 try dsimp only at hM
 refine s_call cf36 [u0_11, v32z] rfl (by have hc_ := (Ready_any _ ((rowSl rfl (H.get (k := 1) rfl) (roLe _ (H.get (k := 2) rfl)) hf31z).mono (Cells.sup_le (ownLe _ (H.get (k := 1) rfl)) (roLe _ (H.get (k := 2) rfl)))) ((ownSl (H.get (k := 0) rfl)).mono (ownLe _ (H.get (k := 0) rfl)))); rw [hq38z, hq39z] at hc_; exact hc_) ?_
 rintro _ w34z ⟨u35z, rfl, hs36z, hx_⟩
 obtain ⟨Bs_15, H, hs36z⟩ := H.fresh hx_ hs36z
 clear hx_
 have hl_hs36z := hs36z.len_le
 refine sM (.tuple #[u35z, I e3]) rfl <| sX [u35z, I e3] u35z rfl rfl <| sX [u35z, I e3] (I e3) rfl rfl <| sA u35z rfl <| sA (I e3) rfl <| s_nil <| sQ rfl ?_
 obtain ⟨r41z, hx40z, hM⟩ := M.e_bind hM
 refine s_call cf79 [] rfl (nilometerlaw13_Six_ok hx40z _ (St.give (T := [cRo Bs_15, cOwn (α := Int) 3 v32z ([(1 : Int)]), cOwn (α := Raw 2) 60 u0_11 rr1_12, cRo Bs2_13, cRo Bs_10, cOwn (α := Int) 3 v19z ([(0 : Int)]), cOwn (α := Raw 2) 60 u0_6 rr1_7, cRo Bs2_8, cRo Bs_5, cOwn (α := Note) 30 v6z ([(⟨(0 : Int), (2 : Int), (7 : Int)⟩ : Note), (⟨(1 : Int), (0 : Int), (9 : Int)⟩ : Note)]), cOwn (α := Raw 2) 60 u0_1 rr1_2, cRo Bs2_3]) H rfl)) ?_
 rintro vq w42z ⟨r5, u0_16, rr1_17, Bs2_18, hr43z, hvq, H2_, hf44z⟩
 subst hr43z
 subst vq
 try dsimp only at hM
 replace H : St w w42z [cOwn (α := Raw 2) 60 u0_16 rr1_17, cRo Bs2_18, cRo Bs_15, cOwn (α := Int) 3 v32z ([(1 : Int)]), cOwn (α := Raw 2) 60 u0_11 rr1_12, cRo Bs2_13, cRo Bs_10, cOwn (α := Int) 3 v19z ([(0 : Int)]), cOwn (α := Raw 2) 60 u0_6 rr1_7, cRo Bs2_8, cRo Bs_5, cOwn (α := Note) 30 v6z ([(⟨(0 : Int), (2 : Int), (7 : Int)⟩ : Note), (⟨(1 : Int), (0 : Int), (9 : Int)⟩ : Note)]), cOwn (α := Raw 2) 60 u0_1 rr1_2, cRo Bs2_3] R := H.back H2_ rfl
 clear H2_
 refine t_bs (α := Int) T34 [I 0] [(0 : Int)] H rfl (.cons rfl (Flat.rep_enc _ (0 : Int)) <| .nil) rfl rfl rfl ?_
 intro v45z w46z H
 obtain ⟨⟨l4, e4⟩, hx50z, hM⟩ := M.e_bind hM
 obtain ⟨hq51z, hq52z⟩ := Prod.mk.inj (M.e_pure hx50z)
 try dsimp only at hM
 refine s_call cf38 [u0_16, v45z] rfl (by have hc_ := (Longest_any _ ((rowSl rfl (H.get (k := 1) rfl) (roLe _ (H.get (k := 2) rfl)) hf44z).mono (Cells.sup_le (ownLe _ (H.get (k := 1) rfl)) (roLe _ (H.get (k := 2) rfl)))) ((ownSl (H.get (k := 0) rfl)).mono (ownLe _ (H.get (k := 0) rfl)))); rw [hq51z, hq52z] at hc_; exact hc_) ?_
 rintro _ w47z ⟨u48z, rfl, hs49z, hx_⟩
 obtain ⟨Bs_20, H, hs49z⟩ := H.fresh hx_ hs49z
 clear hx_
 have hl_hs49z := hs49z.len_le
 refine sM (.tuple #[u48z, I e4]) rfl <| sX [u48z, I e4] u48z rfl rfl <| sX [u48z, I e4] (I e4) rfl rfl <| sA u48z rfl <| sA (I e4) rfl <| s_nil <| W.seq <| sQ rfl <| sM (I e) rfl <| sC e 0 (e != 0) rfl rfl rfl <| sM (B (e != 0)) rfl ?_
 refine g_val (!(e != 0)) (gy_f rfl) (fun hg => x_mv (v := I e2) rfl) <| g_val (!(e != 0)) (gy_f rfl) (fun hg => x_cmp (kd := .i64) (a := e2) (b := 0) (r := e2 != 0) (gd_of (c := !(e != 0)) hg (I e2)) rfl rfl) <| s_val (x_por (b := e != 0) (r := e2 != 0) rfl rfl (fun hb => gd_of (c := !(e != 0)) (by first | exact hb | (rw [hb]; rfl) | simp_all) (B (e2 != 0)))) <| sM (B ((e != 0) || (e2 != 0))) rfl <| g_val (!((e != 0) || (e2 != 0))) (gy_f rfl) (fun hg => x_mv (v := I e3) rfl) <| g_val (!((e != 0) || (e2 != 0))) (gy_f rfl) (fun hg => x_cmp (kd := .i64) (a := e3) (b := 0) (r := e3 != 0) (gd_of (c := !((e != 0) || (e2 != 0))) hg (I e3)) rfl rfl) <| s_val (x_por (b := ((e != 0) || (e2 != 0))) (r := e3 != 0) rfl rfl (fun hb => gd_of (c := !((e != 0) || (e2 != 0))) (by first | exact hb | (rw [hb]; rfl) | simp_all) (B (e3 != 0)))) <| sM (B (((e != 0) || (e2 != 0)) || (e3 != 0))) rfl <| g_val (!(((e != 0) || (e2 != 0)) || (e3 != 0))) (gy_f rfl) (fun hg => x_mv (v := I e4) rfl) <| g_val (!(((e != 0) || (e2 != 0)) || (e3 != 0))) (gy_f rfl) (fun hg => x_cmp (kd := .i64) (a := e4) (b := 0) (r := e4 != 0) (gd_of (c := !(((e != 0) || (e2 != 0)) || (e3 != 0))) hg (I e4)) rfl rfl) <| s_val (x_por (b := (((e != 0) || (e2 != 0)) || (e3 != 0))) (r := e4 != 0) rfl rfl (fun hb => gd_of (c := !(((e != 0) || (e2 != 0)) || (e3 != 0))) (by first | exact hb | (rw [hb]; rfl) | simp_all) (B (e4 != 0)))) <| sM (B ((((e != 0) || (e2 != 0)) || (e3 != 0)) || (e4 != 0))) rfl ?_
 refine g_val (!((((e != 0) || (e2 != 0)) || (e3 != 0)) || (e4 != 0))) (gy_f rfl) (fun hg => x_mv (v := u9z) rfl) ?_
 refine t_gbs (α := Int) T34 (!((((e != 0) || (e2 != 0)) || (e3 != 0)) || (e4 != 0))) (gy_f rfl) [I 7, I 9, I 26, I 10, I 47, I 48] [(7 : Int), (9 : Int), (26 : Int), (10 : Int), (47 : Int), (48 : Int)] H (fun _ => rfl) (.cons rfl (Flat.rep_enc _ _) <| .cons rfl (Flat.rep_enc _ _) <| .cons rfl (Flat.rep_enc _ _) <| .cons rfl (Flat.rep_enc _ _) <| .cons rfl (Flat.rep_enc _ _) <| .cons rfl (Flat.rep_enc _ _) <| .nil) rfl rfl rfl ?_
 intro v53z Bs_21 w54z H hf55z
 obtain ⟨s, hx56z, hM⟩ := M.e_bind hM
 replace hx56z := M.e_pure hx56z
 refine t_gcall (!((((e != 0) || (e2 != 0)) || (e3 != 0)) || (e4 != 0))) (gy_f rfl) cf25 (B s) (fun _ => [u9z, v53z]) (fun hg => lst2 (gd_of (c := !((((e != 0) || (e2 != 0)) || (e3 != 0)) || (e4 != 0))) hg (u9z)) (gd_of (c := !((((e != 0) || (e2 != 0)) || (e3 != 0)) || (e4 != 0))) hg (v53z))) H (fun hg => Ret.mono (same_int _ (hs10z.mono (roLe _ (H.get (k := 13) rfl))) ((hf55z hg).mono (roLe _ (H.get (k := 0) rfl)))) fun v_ w_ ⟨hv_, hx_⟩ => ⟨hv_.trans (congrArg B hx56z), H.ext hx_⟩) ?_
 intro w57z H
 refine g_val (!((((e != 0) || (e2 != 0)) || (e3 != 0)) || (e4 != 0))) (gy_f rfl) (fun hg => x_not (b := s) (gd_of (c := !((((e != 0) || (e2 != 0)) || (e3 != 0)) || (e4 != 0))) hg (B s))) <| s_val (x_por (b := ((((e != 0) || (e2 != 0)) || (e3 != 0)) || (e4 != 0))) (r := !s) rfl rfl (fun hb => gd_of (c := !((((e != 0) || (e2 != 0)) || (e3 != 0)) || (e4 != 0))) (by first | exact hb | (rw [hb]; rfl) | simp_all) (B (!s)))) <| sM (B (((((e != 0) || (e2 != 0)) || (e3 != 0)) || (e4 != 0)) || (!s))) rfl <| g_val (!(((((e != 0) || (e2 != 0)) || (e3 != 0)) || (e4 != 0)) || (!s))) (gy_f rfl) (fun hg => x_mv (v := u22z) rfl) ?_
 refine t_gbs (α := Int) T34 (!(((((e != 0) || (e2 != 0)) || (e3 != 0)) || (e4 != 0)) || (!s))) (gy_f rfl) [I 0, I 2, I 4, I 5] [(0 : Int), (2 : Int), (4 : Int), (5 : Int)] H (fun _ => rfl) (.cons rfl (Flat.rep_enc _ _) <| .cons rfl (Flat.rep_enc _ _) <| .cons rfl (Flat.rep_enc _ _) <| .cons rfl (Flat.rep_enc _ _) <| .nil) rfl rfl rfl ?_
 intro v58z Bs_22 w59z H hf60z
 obtain ⟨s2, hx61z, hM⟩ := M.e_bind hM
 replace hx61z := M.e_pure hx61z
 refine t_gcall (!(((((e != 0) || (e2 != 0)) || (e3 != 0)) || (e4 != 0)) || (!s))) (gy_f rfl) cf25 (B s2) (fun _ => [u22z, v58z]) (fun hg => lst2 (gd_of (c := !(((((e != 0) || (e2 != 0)) || (e3 != 0)) || (e4 != 0)) || (!s))) hg (u22z)) (gd_of (c := !(((((e != 0) || (e2 != 0)) || (e3 != 0)) || (e4 != 0)) || (!s))) hg (v58z))) H (fun hg => Ret.mono (same_int _ (hs23z.mono (roLe _ (H.get (k := 10) rfl))) ((hf60z hg).mono (roLe _ (H.get (k := 0) rfl)))) fun v_ w_ ⟨hv_, hx_⟩ => ⟨hv_.trans (congrArg B hx61z), H.ext hx_⟩) ?_
 intro w62z H
 refine g_val (!(((((e != 0) || (e2 != 0)) || (e3 != 0)) || (e4 != 0)) || (!s))) (gy_f rfl) (fun hg => x_not (b := s2) (gd_of (c := !(((((e != 0) || (e2 != 0)) || (e3 != 0)) || (e4 != 0)) || (!s))) hg (B s2))) <| s_val (x_por (b := (((((e != 0) || (e2 != 0)) || (e3 != 0)) || (e4 != 0)) || (!s))) (r := !s2) rfl rfl (fun hb => gd_of (c := !(((((e != 0) || (e2 != 0)) || (e3 != 0)) || (e4 != 0)) || (!s))) (by first | exact hb | (rw [hb]; rfl) | simp_all) (B (!s2)))) <| sM (B ((((((e != 0) || (e2 != 0)) || (e3 != 0)) || (e4 != 0)) || (!s)) || (!s2))) rfl <| g_val (!((((((e != 0) || (e2 != 0)) || (e3 != 0)) || (e4 != 0)) || (!s)) || (!s2))) (gy_f rfl) (fun hg => x_mv (v := u35z) rfl) ?_
 refine t_gbs (α := Int) T34 (!((((((e != 0) || (e2 != 0)) || (e3 != 0)) || (e4 != 0)) || (!s)) || (!s2))) (gy_f rfl) [I (-1), I 6, I 16, I 36, I 56, I 57] [(-1 : Int), (6 : Int), (16 : Int), (36 : Int), (56 : Int), (57 : Int)] H (fun _ => rfl) (.cons rfl (Flat.rep_enc _ _) <| .cons rfl (Flat.rep_enc _ _) <| .cons rfl (Flat.rep_enc _ _) <| .cons rfl (Flat.rep_enc _ _) <| .cons rfl (Flat.rep_enc _ _) <| .cons rfl (Flat.rep_enc _ _) <| .nil) rfl rfl rfl ?_
 intro v63z Bs_23 w64z H hf65z
 obtain ⟨s3, hx66z, hM⟩ := M.e_bind hM
 replace hx66z := M.e_pure hx66z
 refine t_gcall (!((((((e != 0) || (e2 != 0)) || (e3 != 0)) || (e4 != 0)) || (!s)) || (!s2))) (gy_f rfl) cf25 (B s3) (fun _ => [u35z, v63z]) (fun hg => lst2 (gd_of (c := !((((((e != 0) || (e2 != 0)) || (e3 != 0)) || (e4 != 0)) || (!s)) || (!s2))) hg (u35z)) (gd_of (c := !((((((e != 0) || (e2 != 0)) || (e3 != 0)) || (e4 != 0)) || (!s)) || (!s2))) hg (v63z))) H (fun hg => Ret.mono (same_int _ (hs36z.mono (roLe _ (H.get (k := 7) rfl))) ((hf65z hg).mono (roLe _ (H.get (k := 0) rfl)))) fun v_ w_ ⟨hv_, hx_⟩ => ⟨hv_.trans (congrArg B hx66z), H.ext hx_⟩) ?_
 intro w67z H
 refine g_val (!((((((e != 0) || (e2 != 0)) || (e3 != 0)) || (e4 != 0)) || (!s)) || (!s2))) (gy_f rfl) (fun hg => x_not (b := s3) (gd_of (c := !((((((e != 0) || (e2 != 0)) || (e3 != 0)) || (e4 != 0)) || (!s)) || (!s2))) hg (B s3))) <| s_val (x_por (b := ((((((e != 0) || (e2 != 0)) || (e3 != 0)) || (e4 != 0)) || (!s)) || (!s2))) (r := !s3) rfl rfl (fun hb => gd_of (c := !((((((e != 0) || (e2 != 0)) || (e3 != 0)) || (e4 != 0)) || (!s)) || (!s2))) (by first | exact hb | (rw [hb]; rfl) | simp_all) (B (!s3)))) <| sM (B (((((((e != 0) || (e2 != 0)) || (e3 != 0)) || (e4 != 0)) || (!s)) || (!s2)) || (!s3))) rfl <| g_val (!(((((((e != 0) || (e2 != 0)) || (e3 != 0)) || (e4 != 0)) || (!s)) || (!s2)) || (!s3))) (gy_f rfl) (fun hg => x_mv (v := u48z) rfl) ?_
 refine t_gbs (α := Int) T34 (!(((((((e != 0) || (e2 != 0)) || (e3 != 0)) || (e4 != 0)) || (!s)) || (!s2)) || (!s3))) (gy_f rfl) [I 0, I 2, I 4, I 5] [(0 : Int), (2 : Int), (4 : Int), (5 : Int)] H (fun _ => rfl) (.cons rfl (Flat.rep_enc _ _) <| .cons rfl (Flat.rep_enc _ _) <| .cons rfl (Flat.rep_enc _ _) <| .cons rfl (Flat.rep_enc _ _) <| .nil) rfl rfl rfl ?_
 intro v68z Bs_24 w69z H hf70z
 obtain ⟨s4, hx71z, hM⟩ := M.e_bind hM
 replace hx71z := M.e_pure hx71z
 refine t_gcall (!(((((((e != 0) || (e2 != 0)) || (e3 != 0)) || (e4 != 0)) || (!s)) || (!s2)) || (!s3))) (gy_f rfl) cf25 (B s4) (fun _ => [u48z, v68z]) (fun hg => lst2 (gd_of (c := !(((((((e != 0) || (e2 != 0)) || (e3 != 0)) || (e4 != 0)) || (!s)) || (!s2)) || (!s3))) hg (u48z)) (gd_of (c := !(((((((e != 0) || (e2 != 0)) || (e3 != 0)) || (e4 != 0)) || (!s)) || (!s2)) || (!s3))) hg (v68z))) H (fun hg => Ret.mono (same_int _ (hs49z.mono (roLe _ (H.get (k := 4) rfl))) ((hf70z hg).mono (roLe _ (H.get (k := 0) rfl)))) fun v_ w_ ⟨hv_, hx_⟩ => ⟨hv_.trans (congrArg B hx71z), H.ext hx_⟩) ?_
 intro w72z H
 refine g_val (!(((((((e != 0) || (e2 != 0)) || (e3 != 0)) || (e4 != 0)) || (!s)) || (!s2)) || (!s3))) (gy_f rfl) (fun hg => x_not (b := s4) (gd_of (c := !(((((((e != 0) || (e2 != 0)) || (e3 != 0)) || (e4 != 0)) || (!s)) || (!s2)) || (!s3))) hg (B s4))) <| s_val (x_por (b := (((((((e != 0) || (e2 != 0)) || (e3 != 0)) || (e4 != 0)) || (!s)) || (!s2)) || (!s3))) (r := !s4) rfl rfl (fun hb => gd_of (c := !(((((((e != 0) || (e2 != 0)) || (e3 != 0)) || (e4 != 0)) || (!s)) || (!s2)) || (!s3))) (by first | exact hb | (rw [hb]; rfl) | simp_all) (B (!s4)))) <| s_nil ?_
 refine W.cond ((((((((e != 0) || (e2 != 0)) || (e3 != 0)) || (e4 != 0)) || (!s)) || (!s2)) || (!s3)) || (!s4)) rfl (fun c73z => ?_) (fun c73z => ?_)
 ·replace hM := M.e_t hM c73z
  refine sQ rfl <| sA (B false) rfl <| s_nil ?_
  refine W.ret ?_
  have hr_ := M.e_pure hM
  exact ⟨_, resE_tmp rfl, ⟨false, hr_, rfl, (H.pick [] (by decide) rfl)⟩⟩
 replace hM := M.e_f hM c73z
 refine W.skip <| sQ rfl ?_
 obtain ⟨r75z, hx74z, hM⟩ := M.e_bind hM
 refine s_call cf79 [] rfl (nilometerlaw13_Six_ok hx74z _ (St.give (T := [cRo Bs_24, cRo Bs_23, cRo Bs_22, cRo Bs_21, cRo Bs_20, cOwn (α := Int) 3 v45z ([(0 : Int)]), cOwn (α := Raw 2) 60 u0_16 rr1_17, cRo Bs2_18, cRo Bs_15, cOwn (α := Int) 3 v32z ([(1 : Int)]), cOwn (α := Raw 2) 60 u0_11 rr1_12, cRo Bs2_13, cRo Bs_10, cOwn (α := Int) 3 v19z ([(0 : Int)]), cOwn (α := Raw 2) 60 u0_6 rr1_7, cRo Bs2_8, cRo Bs_5, cOwn (α := Note) 30 v6z ([(⟨(0 : Int), (2 : Int), (7 : Int)⟩ : Note), (⟨(1 : Int), (0 : Int), (9 : Int)⟩ : Note)]), cOwn (α := Raw 2) 60 u0_1 rr1_2, cRo Bs2_3]) H rfl)) ?_
 rintro vq w76z ⟨r6, u0_25, rr1_26, Bs2_27, hr77z, hvq, H2_, hf78z⟩
 subst hr77z
 subst vq
 try dsimp only at hM
 replace H : St w w76z [cOwn (α := Raw 2) 60 u0_25 rr1_26, cRo Bs2_27, cRo Bs_24, cRo Bs_23, cRo Bs_22, cRo Bs_21, cRo Bs_20, cOwn (α := Int) 3 v45z ([(0 : Int)]), cOwn (α := Raw 2) 60 u0_16 rr1_17, cRo Bs2_18, cRo Bs_15, cOwn (α := Int) 3 v32z ([(1 : Int)]), cOwn (α := Raw 2) 60 u0_11 rr1_12, cRo Bs2_13, cRo Bs_10, cOwn (α := Int) 3 v19z ([(0 : Int)]), cOwn (α := Raw 2) 60 u0_6 rr1_7, cRo Bs2_8, cRo Bs_5, cOwn (α := Note) 30 v6z ([(⟨(0 : Int), (2 : Int), (7 : Int)⟩ : Note), (⟨(1 : Int), (0 : Int), (9 : Int)⟩ : Note)]), cOwn (α := Raw 2) 60 u0_1 rr1_2, cRo Bs2_3] R := H.back H2_ rfl
 clear H2_
 refine t_bs (α := Int) T34 [I 0] [(0 : Int)] H rfl (.cons rfl (Flat.rep_enc _ (0 : Int)) <| .nil) rfl rfl rfl ?_
 intro v79z w80z H
 refine t_bs (α := Int) T34 [I 0, I 2, I 4, I 5] [(0 : Int), (2 : Int), (4 : Int), (5 : Int)] H rfl (.cons rfl (Flat.rep_enc _ (0 : Int)) <| .cons rfl (Flat.rep_enc _ (2 : Int)) <| .cons rfl (Flat.rep_enc _ (4 : Int)) <| .cons rfl (Flat.rep_enc _ (5 : Int)) <| .nil) rfl rfl rfl ?_
 intro v81z w82z H
 obtain ⟨r84z, hx83z, hM⟩ := M.e_bind hM
 refine s_call cf34 [u0_25, v79z, v81z] rfl (notes_Fences_ok r6 ([(0 : Int)]) ([(0 : Int), (2 : Int), (4 : Int), (5 : Int)]) (Reads.sup (Reads.of (k := 2) rfl ownLe) (Reads.of (k := 3) rfl roLe)) (rowSl rfl (H.get (k := 2) rfl) (roLe _ (H.get (k := 3) rfl)) hf78z) (Reads.of (k := 1) rfl ownLe) (ownSl (H.get (k := 1) rfl)) (Reads.of (k := 0) rfl ownLe) (ownSl (H.get (k := 0) rfl)) hx83z _ (St.give (T := [cOwn (α := Int) 3 v81z ([(0 : Int), (2 : Int), (4 : Int), (5 : Int)]), cOwn (α := Int) 3 v79z ([(0 : Int)]), cOwn (α := Raw 2) 60 u0_25 rr1_26, cRo Bs2_27, cRo Bs_24, cRo Bs_23, cRo Bs_22, cRo Bs_21, cRo Bs_20, cOwn (α := Int) 3 v45z ([(0 : Int)]), cOwn (α := Raw 2) 60 u0_16 rr1_17, cRo Bs2_18, cRo Bs_15, cOwn (α := Int) 3 v32z ([(1 : Int)]), cOwn (α := Raw 2) 60 u0_11 rr1_12, cRo Bs2_13, cRo Bs_10, cOwn (α := Int) 3 v19z ([(0 : Int)]), cOwn (α := Raw 2) 60 u0_6 rr1_7, cRo Bs2_8, cRo Bs_5, cOwn (α := Note) 30 v6z ([(⟨(0 : Int), (2 : Int), (7 : Int)⟩ : Note), (⟨(1 : Int), (0 : Int), (9 : Int)⟩ : Note)]), cOwn (α := Raw 2) 60 u0_1 rr1_2, cRo Bs2_3]) H rfl)) ?_
 rintro vq w85z ⟨r0, r1, hr86z, hvq, H2_⟩
 subst hr86z
 subst vq
 try dsimp only at hM
 replace H : St w w85z [cOwn (α := Int) 3 v81z ([(0 : Int), (2 : Int), (4 : Int), (5 : Int)]), cOwn (α := Int) 3 v79z ([(0 : Int)]), cOwn (α := Raw 2) 60 u0_25 rr1_26, cRo Bs2_27, cRo Bs_24, cRo Bs_23, cRo Bs_22, cRo Bs_21, cRo Bs_20, cOwn (α := Int) 3 v45z ([(0 : Int)]), cOwn (α := Raw 2) 60 u0_16 rr1_17, cRo Bs2_18, cRo Bs_15, cOwn (α := Int) 3 v32z ([(1 : Int)]), cOwn (α := Raw 2) 60 u0_11 rr1_12, cRo Bs2_13, cRo Bs_10, cOwn (α := Int) 3 v19z ([(0 : Int)]), cOwn (α := Raw 2) 60 u0_6 rr1_7, cRo Bs2_8, cRo Bs_5, cOwn (α := Note) 30 v6z ([(⟨(0 : Int), (2 : Int), (7 : Int)⟩ : Note), (⟨(1 : Int), (0 : Int), (9 : Int)⟩ : Note)]), cOwn (α := Raw 2) 60 u0_1 rr1_2, cRo Bs2_3] R := H.back H2_ rfl
 clear H2_
 refine sM (.tuple #[B r0, I r1]) rfl <| sX [B r0, I r1] (B r0) rfl rfl <| sX [B r0, I r1] (I r1) rfl rfl <| sA (B r0) rfl <| sA (I r1) rfl <| s_nil <| sQ rfl ?_
 obtain ⟨r88z, hx87z, hM⟩ := M.e_bind hM
 refine s_call cf79 [] rfl (nilometerlaw13_Six_ok hx87z _ (St.give (T := [cOwn (α := Int) 3 v81z ([(0 : Int), (2 : Int), (4 : Int), (5 : Int)]), cOwn (α := Int) 3 v79z ([(0 : Int)]), cOwn (α := Raw 2) 60 u0_25 rr1_26, cRo Bs2_27, cRo Bs_24, cRo Bs_23, cRo Bs_22, cRo Bs_21, cRo Bs_20, cOwn (α := Int) 3 v45z ([(0 : Int)]), cOwn (α := Raw 2) 60 u0_16 rr1_17, cRo Bs2_18, cRo Bs_15, cOwn (α := Int) 3 v32z ([(1 : Int)]), cOwn (α := Raw 2) 60 u0_11 rr1_12, cRo Bs2_13, cRo Bs_10, cOwn (α := Int) 3 v19z ([(0 : Int)]), cOwn (α := Raw 2) 60 u0_6 rr1_7, cRo Bs2_8, cRo Bs_5, cOwn (α := Note) 30 v6z ([(⟨(0 : Int), (2 : Int), (7 : Int)⟩ : Note), (⟨(1 : Int), (0 : Int), (9 : Int)⟩ : Note)]), cOwn (α := Raw 2) 60 u0_1 rr1_2, cRo Bs2_3]) H rfl)) ?_
 rintro vq w89z ⟨r7, u0_30, rr1_31, Bs2_32, hr90z, hvq, H2_, hf91z⟩
 subst hr90z
 subst vq
 try dsimp only at hM
 replace H : St w w89z [cOwn (α := Raw 2) 60 u0_30 rr1_31, cRo Bs2_32, cOwn (α := Int) 3 v81z ([(0 : Int), (2 : Int), (4 : Int), (5 : Int)]), cOwn (α := Int) 3 v79z ([(0 : Int)]), cOwn (α := Raw 2) 60 u0_25 rr1_26, cRo Bs2_27, cRo Bs_24, cRo Bs_23, cRo Bs_22, cRo Bs_21, cRo Bs_20, cOwn (α := Int) 3 v45z ([(0 : Int)]), cOwn (α := Raw 2) 60 u0_16 rr1_17, cRo Bs2_18, cRo Bs_15, cOwn (α := Int) 3 v32z ([(1 : Int)]), cOwn (α := Raw 2) 60 u0_11 rr1_12, cRo Bs2_13, cRo Bs_10, cOwn (α := Int) 3 v19z ([(0 : Int)]), cOwn (α := Raw 2) 60 u0_6 rr1_7, cRo Bs2_8, cRo Bs_5, cOwn (α := Note) 30 v6z ([(⟨(0 : Int), (2 : Int), (7 : Int)⟩ : Note), (⟨(1 : Int), (0 : Int), (9 : Int)⟩ : Note)]), cOwn (α := Raw 2) 60 u0_1 rr1_2, cRo Bs2_3] R := H.back H2_ rfl
 clear H2_
 refine t_bs (α := Int) T34 [I 0] [(0 : Int)] H rfl (.cons rfl (Flat.rep_enc _ (0 : Int)) <| .nil) rfl rfl rfl ?_
 intro v92z w93z H
 refine t_bs (α := Int) T34 [I 0, I 2, I 4] [(0 : Int), (2 : Int), (4 : Int)] H rfl (.cons rfl (Flat.rep_enc _ (0 : Int)) <| .cons rfl (Flat.rep_enc _ (2 : Int)) <| .cons rfl (Flat.rep_enc _ (4 : Int)) <| .nil) rfl rfl rfl ?_
 intro v94z w95z H
 obtain ⟨r97z, hx96z, hM⟩ := M.e_bind hM
 refine s_call cf34 [u0_30, v92z, v94z] rfl (notes_Fences_ok r7 ([(0 : Int)]) ([(0 : Int), (2 : Int), (4 : Int)]) (Reads.sup (Reads.of (k := 2) rfl ownLe) (Reads.of (k := 3) rfl roLe)) (rowSl rfl (H.get (k := 2) rfl) (roLe _ (H.get (k := 3) rfl)) hf91z) (Reads.of (k := 1) rfl ownLe) (ownSl (H.get (k := 1) rfl)) (Reads.of (k := 0) rfl ownLe) (ownSl (H.get (k := 0) rfl)) hx96z _ (St.give (T := [cOwn (α := Int) 3 v94z ([(0 : Int), (2 : Int), (4 : Int)]), cOwn (α := Int) 3 v92z ([(0 : Int)]), cOwn (α := Raw 2) 60 u0_30 rr1_31, cRo Bs2_32, cOwn (α := Int) 3 v81z ([(0 : Int), (2 : Int), (4 : Int), (5 : Int)]), cOwn (α := Int) 3 v79z ([(0 : Int)]), cOwn (α := Raw 2) 60 u0_25 rr1_26, cRo Bs2_27, cRo Bs_24, cRo Bs_23, cRo Bs_22, cRo Bs_21, cRo Bs_20, cOwn (α := Int) 3 v45z ([(0 : Int)]), cOwn (α := Raw 2) 60 u0_16 rr1_17, cRo Bs2_18, cRo Bs_15, cOwn (α := Int) 3 v32z ([(1 : Int)]), cOwn (α := Raw 2) 60 u0_11 rr1_12, cRo Bs2_13, cRo Bs_10, cOwn (α := Int) 3 v19z ([(0 : Int)]), cOwn (α := Raw 2) 60 u0_6 rr1_7, cRo Bs2_8, cRo Bs_5, cOwn (α := Note) 30 v6z ([(⟨(0 : Int), (2 : Int), (7 : Int)⟩ : Note), (⟨(1 : Int), (0 : Int), (9 : Int)⟩ : Note)]), cOwn (α := Raw 2) 60 u0_1 rr1_2, cRo Bs2_3]) H rfl)) ?_
 rintro vq w98z ⟨r02, r12, hr99z, hvq, H2_⟩
 subst hr99z
 subst vq
 try dsimp only at hM
 replace H : St w w98z [cOwn (α := Int) 3 v94z ([(0 : Int), (2 : Int), (4 : Int)]), cOwn (α := Int) 3 v92z ([(0 : Int)]), cOwn (α := Raw 2) 60 u0_30 rr1_31, cRo Bs2_32, cOwn (α := Int) 3 v81z ([(0 : Int), (2 : Int), (4 : Int), (5 : Int)]), cOwn (α := Int) 3 v79z ([(0 : Int)]), cOwn (α := Raw 2) 60 u0_25 rr1_26, cRo Bs2_27, cRo Bs_24, cRo Bs_23, cRo Bs_22, cRo Bs_21, cRo Bs_20, cOwn (α := Int) 3 v45z ([(0 : Int)]), cOwn (α := Raw 2) 60 u0_16 rr1_17, cRo Bs2_18, cRo Bs_15, cOwn (α := Int) 3 v32z ([(1 : Int)]), cOwn (α := Raw 2) 60 u0_11 rr1_12, cRo Bs2_13, cRo Bs_10, cOwn (α := Int) 3 v19z ([(0 : Int)]), cOwn (α := Raw 2) 60 u0_6 rr1_7, cRo Bs2_8, cRo Bs_5, cOwn (α := Note) 30 v6z ([(⟨(0 : Int), (2 : Int), (7 : Int)⟩ : Note), (⟨(1 : Int), (0 : Int), (9 : Int)⟩ : Note)]), cOwn (α := Raw 2) 60 u0_1 rr1_2, cRo Bs2_3] R := H.back H2_ rfl
 clear H2_
 refine sM (.tuple #[B r02, I r12]) rfl <| sX [B r02, I r12] (B r02) rfl rfl <| sX [B r02, I r12] (I r12) rfl rfl <| sA (B r02) rfl <| sA (I r12) rfl <| s_nil <| sQ rfl ?_
 obtain ⟨r101z, hx100z, hM⟩ := M.e_bind hM
 refine s_call cf79 [] rfl (nilometerlaw13_Six_ok hx100z _ (St.give (T := [cOwn (α := Int) 3 v94z ([(0 : Int), (2 : Int), (4 : Int)]), cOwn (α := Int) 3 v92z ([(0 : Int)]), cOwn (α := Raw 2) 60 u0_30 rr1_31, cRo Bs2_32, cOwn (α := Int) 3 v81z ([(0 : Int), (2 : Int), (4 : Int), (5 : Int)]), cOwn (α := Int) 3 v79z ([(0 : Int)]), cOwn (α := Raw 2) 60 u0_25 rr1_26, cRo Bs2_27, cRo Bs_24, cRo Bs_23, cRo Bs_22, cRo Bs_21, cRo Bs_20, cOwn (α := Int) 3 v45z ([(0 : Int)]), cOwn (α := Raw 2) 60 u0_16 rr1_17, cRo Bs2_18, cRo Bs_15, cOwn (α := Int) 3 v32z ([(1 : Int)]), cOwn (α := Raw 2) 60 u0_11 rr1_12, cRo Bs2_13, cRo Bs_10, cOwn (α := Int) 3 v19z ([(0 : Int)]), cOwn (α := Raw 2) 60 u0_6 rr1_7, cRo Bs2_8, cRo Bs_5, cOwn (α := Note) 30 v6z ([(⟨(0 : Int), (2 : Int), (7 : Int)⟩ : Note), (⟨(1 : Int), (0 : Int), (9 : Int)⟩ : Note)]), cOwn (α := Raw 2) 60 u0_1 rr1_2, cRo Bs2_3]) H rfl)) ?_
 rintro vq w102z ⟨r8, u0_35, rr1_36, Bs2_37, hr103z, hvq, H2_, hf104z⟩
 subst hr103z
 subst vq
 try dsimp only at hM
 replace H : St w w102z [cOwn (α := Raw 2) 60 u0_35 rr1_36, cRo Bs2_37, cOwn (α := Int) 3 v94z ([(0 : Int), (2 : Int), (4 : Int)]), cOwn (α := Int) 3 v92z ([(0 : Int)]), cOwn (α := Raw 2) 60 u0_30 rr1_31, cRo Bs2_32, cOwn (α := Int) 3 v81z ([(0 : Int), (2 : Int), (4 : Int), (5 : Int)]), cOwn (α := Int) 3 v79z ([(0 : Int)]), cOwn (α := Raw 2) 60 u0_25 rr1_26, cRo Bs2_27, cRo Bs_24, cRo Bs_23, cRo Bs_22, cRo Bs_21, cRo Bs_20, cOwn (α := Int) 3 v45z ([(0 : Int)]), cOwn (α := Raw 2) 60 u0_16 rr1_17, cRo Bs2_18, cRo Bs_15, cOwn (α := Int) 3 v32z ([(1 : Int)]), cOwn (α := Raw 2) 60 u0_11 rr1_12, cRo Bs2_13, cRo Bs_10, cOwn (α := Int) 3 v19z ([(0 : Int)]), cOwn (α := Raw 2) 60 u0_6 rr1_7, cRo Bs2_8, cRo Bs_5, cOwn (α := Note) 30 v6z ([(⟨(0 : Int), (2 : Int), (7 : Int)⟩ : Note), (⟨(1 : Int), (0 : Int), (9 : Int)⟩ : Note)]), cOwn (α := Raw 2) 60 u0_1 rr1_2, cRo Bs2_3] R := H.back H2_ rfl
 clear H2_
 refine t_bs (α := Int) T34 [I 1] [(1 : Int)] H rfl (.cons rfl (Flat.rep_enc _ (1 : Int)) <| .nil) rfl rfl rfl ?_
 intro v105z w106z H
 obtain ⟨r108z, hx107z, hM⟩ := M.e_bind hM
 refine s_call cf64 [u0_35, v105z, I 4] rfl (notes_Freeze_ok r8 ([(1 : Int)]) 4 (Reads.sup (Reads.of (k := 1) rfl ownLe) (Reads.of (k := 2) rfl roLe)) (rowSl rfl (H.get (k := 1) rfl) (roLe _ (H.get (k := 2) rfl)) hf104z) (Reads.of (k := 0) rfl ownLe) (ownSl (H.get (k := 0) rfl)) hx107z _ (St.give (T := [cOwn (α := Int) 3 v105z ([(1 : Int)]), cOwn (α := Raw 2) 60 u0_35 rr1_36, cRo Bs2_37, cOwn (α := Int) 3 v94z ([(0 : Int), (2 : Int), (4 : Int)]), cOwn (α := Int) 3 v92z ([(0 : Int)]), cOwn (α := Raw 2) 60 u0_30 rr1_31, cRo Bs2_32, cOwn (α := Int) 3 v81z ([(0 : Int), (2 : Int), (4 : Int), (5 : Int)]), cOwn (α := Int) 3 v79z ([(0 : Int)]), cOwn (α := Raw 2) 60 u0_25 rr1_26, cRo Bs2_27, cRo Bs_24, cRo Bs_23, cRo Bs_22, cRo Bs_21, cRo Bs_20, cOwn (α := Int) 3 v45z ([(0 : Int)]), cOwn (α := Raw 2) 60 u0_16 rr1_17, cRo Bs2_18, cRo Bs_15, cOwn (α := Int) 3 v32z ([(1 : Int)]), cOwn (α := Raw 2) 60 u0_11 rr1_12, cRo Bs2_13, cRo Bs_10, cOwn (α := Int) 3 v19z ([(0 : Int)]), cOwn (α := Raw 2) 60 u0_6 rr1_7, cRo Bs2_8, cRo Bs_5, cOwn (α := Note) 30 v6z ([(⟨(0 : Int), (2 : Int), (7 : Int)⟩ : Note), (⟨(1 : Int), (0 : Int), (9 : Int)⟩ : Note)]), cOwn (α := Raw 2) 60 u0_1 rr1_2, cRo Bs2_3]) H rfl)) ?_
 rintro vq w109z ⟨r03, r13, u0_39, hr110z, hvq, H2_⟩
 subst hr110z
 subst vq
 try dsimp only at hM
 replace H : St w w109z [cOwn (α := Int) 3 u0_39 r03, cOwn (α := Int) 3 v105z ([(1 : Int)]), cOwn (α := Raw 2) 60 u0_35 rr1_36, cRo Bs2_37, cOwn (α := Int) 3 v94z ([(0 : Int), (2 : Int), (4 : Int)]), cOwn (α := Int) 3 v92z ([(0 : Int)]), cOwn (α := Raw 2) 60 u0_30 rr1_31, cRo Bs2_32, cOwn (α := Int) 3 v81z ([(0 : Int), (2 : Int), (4 : Int), (5 : Int)]), cOwn (α := Int) 3 v79z ([(0 : Int)]), cOwn (α := Raw 2) 60 u0_25 rr1_26, cRo Bs2_27, cRo Bs_24, cRo Bs_23, cRo Bs_22, cRo Bs_21, cRo Bs_20, cOwn (α := Int) 3 v45z ([(0 : Int)]), cOwn (α := Raw 2) 60 u0_16 rr1_17, cRo Bs2_18, cRo Bs_15, cOwn (α := Int) 3 v32z ([(1 : Int)]), cOwn (α := Raw 2) 60 u0_11 rr1_12, cRo Bs2_13, cRo Bs_10, cOwn (α := Int) 3 v19z ([(0 : Int)]), cOwn (α := Raw 2) 60 u0_6 rr1_7, cRo Bs2_8, cRo Bs_5, cOwn (α := Note) 30 v6z ([(⟨(0 : Int), (2 : Int), (7 : Int)⟩ : Note), (⟨(1 : Int), (0 : Int), (9 : Int)⟩ : Note)]), cOwn (α := Raw 2) 60 u0_1 rr1_2, cRo Bs2_3] R := H.back H2_ rfl
 clear H2_
 refine sM (.tuple #[u0_39, I r13]) rfl <| sX [u0_39, I r13] u0_39 rfl rfl <| sX [u0_39, I r13] (I r13) rfl rfl <| sA u0_39 rfl <| sA (I r13) rfl <| s_nil <| sQ rfl ?_
 obtain ⟨r112z, hx111z, hM⟩ := M.e_bind hM
 refine s_call cf79 [] rfl (nilometerlaw13_Six_ok hx111z _ (St.give (T := [cOwn (α := Int) 3 u0_39 r03, cOwn (α := Int) 3 v105z ([(1 : Int)]), cOwn (α := Raw 2) 60 u0_35 rr1_36, cRo Bs2_37, cOwn (α := Int) 3 v94z ([(0 : Int), (2 : Int), (4 : Int)]), cOwn (α := Int) 3 v92z ([(0 : Int)]), cOwn (α := Raw 2) 60 u0_30 rr1_31, cRo Bs2_32, cOwn (α := Int) 3 v81z ([(0 : Int), (2 : Int), (4 : Int), (5 : Int)]), cOwn (α := Int) 3 v79z ([(0 : Int)]), cOwn (α := Raw 2) 60 u0_25 rr1_26, cRo Bs2_27, cRo Bs_24, cRo Bs_23, cRo Bs_22, cRo Bs_21, cRo Bs_20, cOwn (α := Int) 3 v45z ([(0 : Int)]), cOwn (α := Raw 2) 60 u0_16 rr1_17, cRo Bs2_18, cRo Bs_15, cOwn (α := Int) 3 v32z ([(1 : Int)]), cOwn (α := Raw 2) 60 u0_11 rr1_12, cRo Bs2_13, cRo Bs_10, cOwn (α := Int) 3 v19z ([(0 : Int)]), cOwn (α := Raw 2) 60 u0_6 rr1_7, cRo Bs2_8, cRo Bs_5, cOwn (α := Note) 30 v6z ([(⟨(0 : Int), (2 : Int), (7 : Int)⟩ : Note), (⟨(1 : Int), (0 : Int), (9 : Int)⟩ : Note)]), cOwn (α := Raw 2) 60 u0_1 rr1_2, cRo Bs2_3]) H rfl)) ?_
 rintro vq w113z ⟨r9, u0_40, rr1_41, Bs2_42, hr114z, hvq, H2_, hf115z⟩
 subst hr114z
 subst vq
 try dsimp only at hM
 replace H : St w w113z [cOwn (α := Raw 2) 60 u0_40 rr1_41, cRo Bs2_42, cOwn (α := Int) 3 u0_39 r03, cOwn (α := Int) 3 v105z ([(1 : Int)]), cOwn (α := Raw 2) 60 u0_35 rr1_36, cRo Bs2_37, cOwn (α := Int) 3 v94z ([(0 : Int), (2 : Int), (4 : Int)]), cOwn (α := Int) 3 v92z ([(0 : Int)]), cOwn (α := Raw 2) 60 u0_30 rr1_31, cRo Bs2_32, cOwn (α := Int) 3 v81z ([(0 : Int), (2 : Int), (4 : Int), (5 : Int)]), cOwn (α := Int) 3 v79z ([(0 : Int)]), cOwn (α := Raw 2) 60 u0_25 rr1_26, cRo Bs2_27, cRo Bs_24, cRo Bs_23, cRo Bs_22, cRo Bs_21, cRo Bs_20, cOwn (α := Int) 3 v45z ([(0 : Int)]), cOwn (α := Raw 2) 60 u0_16 rr1_17, cRo Bs2_18, cRo Bs_15, cOwn (α := Int) 3 v32z ([(1 : Int)]), cOwn (α := Raw 2) 60 u0_11 rr1_12, cRo Bs2_13, cRo Bs_10, cOwn (α := Int) 3 v19z ([(0 : Int)]), cOwn (α := Raw 2) 60 u0_6 rr1_7, cRo Bs2_8, cRo Bs_5, cOwn (α := Note) 30 v6z ([(⟨(0 : Int), (2 : Int), (7 : Int)⟩ : Note), (⟨(1 : Int), (0 : Int), (9 : Int)⟩ : Note)]), cOwn (α := Raw 2) 60 u0_1 rr1_2, cRo Bs2_3] R := H.back H2_ rfl
 clear H2_
 refine t_bs (α := Int) T34 [I 1] [(1 : Int)] H rfl (.cons rfl (Flat.rep_enc _ (1 : Int)) <| .nil) rfl rfl rfl ?_
 intro v116z w117z H
 obtain ⟨r119z, hx118z, hM⟩ := M.e_bind hM
 refine s_call cf65 [u0_40, v116z, I 4] rfl (notes_Lines_ok r9 ([(1 : Int)]) 4 (Reads.sup (Reads.of (k := 1) rfl ownLe) (Reads.of (k := 2) rfl roLe)) (rowSl rfl (H.get (k := 1) rfl) (roLe _ (H.get (k := 2) rfl)) hf115z) (Reads.of (k := 0) rfl ownLe) (ownSl (H.get (k := 0) rfl)) hx118z _ (St.give (T := [cOwn (α := Int) 3 v116z ([(1 : Int)]), cOwn (α := Raw 2) 60 u0_40 rr1_41, cRo Bs2_42, cOwn (α := Int) 3 u0_39 r03, cOwn (α := Int) 3 v105z ([(1 : Int)]), cOwn (α := Raw 2) 60 u0_35 rr1_36, cRo Bs2_37, cOwn (α := Int) 3 v94z ([(0 : Int), (2 : Int), (4 : Int)]), cOwn (α := Int) 3 v92z ([(0 : Int)]), cOwn (α := Raw 2) 60 u0_30 rr1_31, cRo Bs2_32, cOwn (α := Int) 3 v81z ([(0 : Int), (2 : Int), (4 : Int), (5 : Int)]), cOwn (α := Int) 3 v79z ([(0 : Int)]), cOwn (α := Raw 2) 60 u0_25 rr1_26, cRo Bs2_27, cRo Bs_24, cRo Bs_23, cRo Bs_22, cRo Bs_21, cRo Bs_20, cOwn (α := Int) 3 v45z ([(0 : Int)]), cOwn (α := Raw 2) 60 u0_16 rr1_17, cRo Bs2_18, cRo Bs_15, cOwn (α := Int) 3 v32z ([(1 : Int)]), cOwn (α := Raw 2) 60 u0_11 rr1_12, cRo Bs2_13, cRo Bs_10, cOwn (α := Int) 3 v19z ([(0 : Int)]), cOwn (α := Raw 2) 60 u0_6 rr1_7, cRo Bs2_8, cRo Bs_5, cOwn (α := Note) 30 v6z ([(⟨(0 : Int), (2 : Int), (7 : Int)⟩ : Note), (⟨(1 : Int), (0 : Int), (9 : Int)⟩ : Note)]), cOwn (α := Raw 2) 60 u0_1 rr1_2, cRo Bs2_3]) H rfl)) ?_
 rintro vq w120z ⟨r04, r14, u0_44, rr1_45, Bs2_46, hr121z, hvq, H2_, hf122z⟩
 subst hr121z
 subst vq
 try dsimp only at hM
 replace H : St w w120z [cOwn (α := Raw 0) 34 u0_44 rr1_45, cRo Bs2_46, cOwn (α := Int) 3 v116z ([(1 : Int)]), cOwn (α := Raw 2) 60 u0_40 rr1_41, cRo Bs2_42, cOwn (α := Int) 3 u0_39 r03, cOwn (α := Int) 3 v105z ([(1 : Int)]), cOwn (α := Raw 2) 60 u0_35 rr1_36, cRo Bs2_37, cOwn (α := Int) 3 v94z ([(0 : Int), (2 : Int), (4 : Int)]), cOwn (α := Int) 3 v92z ([(0 : Int)]), cOwn (α := Raw 2) 60 u0_30 rr1_31, cRo Bs2_32, cOwn (α := Int) 3 v81z ([(0 : Int), (2 : Int), (4 : Int), (5 : Int)]), cOwn (α := Int) 3 v79z ([(0 : Int)]), cOwn (α := Raw 2) 60 u0_25 rr1_26, cRo Bs2_27, cRo Bs_24, cRo Bs_23, cRo Bs_22, cRo Bs_21, cRo Bs_20, cOwn (α := Int) 3 v45z ([(0 : Int)]), cOwn (α := Raw 2) 60 u0_16 rr1_17, cRo Bs2_18, cRo Bs_15, cOwn (α := Int) 3 v32z ([(1 : Int)]), cOwn (α := Raw 2) 60 u0_11 rr1_12, cRo Bs2_13, cRo Bs_10, cOwn (α := Int) 3 v19z ([(0 : Int)]), cOwn (α := Raw 2) 60 u0_6 rr1_7, cRo Bs2_8, cRo Bs_5, cOwn (α := Note) 30 v6z ([(⟨(0 : Int), (2 : Int), (7 : Int)⟩ : Note), (⟨(1 : Int), (0 : Int), (9 : Int)⟩ : Note)]), cOwn (α := Raw 2) 60 u0_1 rr1_2, cRo Bs2_3] R := H.back H2_ rfl
 clear H2_
 refine sM (.tuple #[u0_44, I r14]) rfl <| sX [u0_44, I r14] u0_44 rfl rfl <| sX [u0_44, I r14] (I r14) rfl rfl <| sA u0_44 rfl <| sA (I r14) rfl <| s_nil <| sQ rfl ?_
 obtain ⟨r124z, hx123z, hM⟩ := M.e_bind hM
 refine s_call cf79 [] rfl (nilometerlaw13_Six_ok hx123z _ (St.give (T := [cOwn (α := Raw 0) 34 u0_44 rr1_45, cRo Bs2_46, cOwn (α := Int) 3 v116z ([(1 : Int)]), cOwn (α := Raw 2) 60 u0_40 rr1_41, cRo Bs2_42, cOwn (α := Int) 3 u0_39 r03, cOwn (α := Int) 3 v105z ([(1 : Int)]), cOwn (α := Raw 2) 60 u0_35 rr1_36, cRo Bs2_37, cOwn (α := Int) 3 v94z ([(0 : Int), (2 : Int), (4 : Int)]), cOwn (α := Int) 3 v92z ([(0 : Int)]), cOwn (α := Raw 2) 60 u0_30 rr1_31, cRo Bs2_32, cOwn (α := Int) 3 v81z ([(0 : Int), (2 : Int), (4 : Int), (5 : Int)]), cOwn (α := Int) 3 v79z ([(0 : Int)]), cOwn (α := Raw 2) 60 u0_25 rr1_26, cRo Bs2_27, cRo Bs_24, cRo Bs_23, cRo Bs_22, cRo Bs_21, cRo Bs_20, cOwn (α := Int) 3 v45z ([(0 : Int)]), cOwn (α := Raw 2) 60 u0_16 rr1_17, cRo Bs2_18, cRo Bs_15, cOwn (α := Int) 3 v32z ([(1 : Int)]), cOwn (α := Raw 2) 60 u0_11 rr1_12, cRo Bs2_13, cRo Bs_10, cOwn (α := Int) 3 v19z ([(0 : Int)]), cOwn (α := Raw 2) 60 u0_6 rr1_7, cRo Bs2_8, cRo Bs_5, cOwn (α := Note) 30 v6z ([(⟨(0 : Int), (2 : Int), (7 : Int)⟩ : Note), (⟨(1 : Int), (0 : Int), (9 : Int)⟩ : Note)]), cOwn (α := Raw 2) 60 u0_1 rr1_2, cRo Bs2_3]) H rfl)) ?_
 rintro vq w125z ⟨r10, u0_47, rr1_48, Bs2_49, hr126z, hvq, H2_, hf127z⟩
 subst hr126z
 subst vq
 try dsimp only at hM
 replace H : St w w125z [cOwn (α := Raw 2) 60 u0_47 rr1_48, cRo Bs2_49, cOwn (α := Raw 0) 34 u0_44 rr1_45, cRo Bs2_46, cOwn (α := Int) 3 v116z ([(1 : Int)]), cOwn (α := Raw 2) 60 u0_40 rr1_41, cRo Bs2_42, cOwn (α := Int) 3 u0_39 r03, cOwn (α := Int) 3 v105z ([(1 : Int)]), cOwn (α := Raw 2) 60 u0_35 rr1_36, cRo Bs2_37, cOwn (α := Int) 3 v94z ([(0 : Int), (2 : Int), (4 : Int)]), cOwn (α := Int) 3 v92z ([(0 : Int)]), cOwn (α := Raw 2) 60 u0_30 rr1_31, cRo Bs2_32, cOwn (α := Int) 3 v81z ([(0 : Int), (2 : Int), (4 : Int), (5 : Int)]), cOwn (α := Int) 3 v79z ([(0 : Int)]), cOwn (α := Raw 2) 60 u0_25 rr1_26, cRo Bs2_27, cRo Bs_24, cRo Bs_23, cRo Bs_22, cRo Bs_21, cRo Bs_20, cOwn (α := Int) 3 v45z ([(0 : Int)]), cOwn (α := Raw 2) 60 u0_16 rr1_17, cRo Bs2_18, cRo Bs_15, cOwn (α := Int) 3 v32z ([(1 : Int)]), cOwn (α := Raw 2) 60 u0_11 rr1_12, cRo Bs2_13, cRo Bs_10, cOwn (α := Int) 3 v19z ([(0 : Int)]), cOwn (α := Raw 2) 60 u0_6 rr1_7, cRo Bs2_8, cRo Bs_5, cOwn (α := Note) 30 v6z ([(⟨(0 : Int), (2 : Int), (7 : Int)⟩ : Note), (⟨(1 : Int), (0 : Int), (9 : Int)⟩ : Note)]), cOwn (α := Raw 2) 60 u0_1 rr1_2, cRo Bs2_3] R := H.back H2_ rfl
 clear H2_
 refine t_bs (α := Int) T34 [I 1] [(1 : Int)] H rfl (.cons rfl (Flat.rep_enc _ (1 : Int)) <| .nil) rfl rfl rfl ?_
 intro v128z w129z H
 obtain ⟨r131z, hx130z, hM⟩ := M.e_bind hM
 refine s_call cf64 [u0_47, v128z, I 3] rfl (notes_Freeze_ok r10 ([(1 : Int)]) 3 (Reads.sup (Reads.of (k := 1) rfl ownLe) (Reads.of (k := 2) rfl roLe)) (rowSl rfl (H.get (k := 1) rfl) (roLe _ (H.get (k := 2) rfl)) hf127z) (Reads.of (k := 0) rfl ownLe) (ownSl (H.get (k := 0) rfl)) hx130z _ (St.give (T := [cOwn (α := Int) 3 v128z ([(1 : Int)]), cOwn (α := Raw 2) 60 u0_47 rr1_48, cRo Bs2_49, cOwn (α := Raw 0) 34 u0_44 rr1_45, cRo Bs2_46, cOwn (α := Int) 3 v116z ([(1 : Int)]), cOwn (α := Raw 2) 60 u0_40 rr1_41, cRo Bs2_42, cOwn (α := Int) 3 u0_39 r03, cOwn (α := Int) 3 v105z ([(1 : Int)]), cOwn (α := Raw 2) 60 u0_35 rr1_36, cRo Bs2_37, cOwn (α := Int) 3 v94z ([(0 : Int), (2 : Int), (4 : Int)]), cOwn (α := Int) 3 v92z ([(0 : Int)]), cOwn (α := Raw 2) 60 u0_30 rr1_31, cRo Bs2_32, cOwn (α := Int) 3 v81z ([(0 : Int), (2 : Int), (4 : Int), (5 : Int)]), cOwn (α := Int) 3 v79z ([(0 : Int)]), cOwn (α := Raw 2) 60 u0_25 rr1_26, cRo Bs2_27, cRo Bs_24, cRo Bs_23, cRo Bs_22, cRo Bs_21, cRo Bs_20, cOwn (α := Int) 3 v45z ([(0 : Int)]), cOwn (α := Raw 2) 60 u0_16 rr1_17, cRo Bs2_18, cRo Bs_15, cOwn (α := Int) 3 v32z ([(1 : Int)]), cOwn (α := Raw 2) 60 u0_11 rr1_12, cRo Bs2_13, cRo Bs_10, cOwn (α := Int) 3 v19z ([(0 : Int)]), cOwn (α := Raw 2) 60 u0_6 rr1_7, cRo Bs2_8, cRo Bs_5, cOwn (α := Note) 30 v6z ([(⟨(0 : Int), (2 : Int), (7 : Int)⟩ : Note), (⟨(1 : Int), (0 : Int), (9 : Int)⟩ : Note)]), cOwn (α := Raw 2) 60 u0_1 rr1_2, cRo Bs2_3]) H rfl)) ?_
 rintro vq w132z ⟨r05, r15, u0_51, hr133z, hvq, H2_⟩
 subst hr133z
 subst vq
 try dsimp only at hM
 replace H : St w w132z [cOwn (α := Int) 3 u0_51 r05, cOwn (α := Int) 3 v128z ([(1 : Int)]), cOwn (α := Raw 2) 60 u0_47 rr1_48, cRo Bs2_49, cOwn (α := Raw 0) 34 u0_44 rr1_45, cRo Bs2_46, cOwn (α := Int) 3 v116z ([(1 : Int)]), cOwn (α := Raw 2) 60 u0_40 rr1_41, cRo Bs2_42, cOwn (α := Int) 3 u0_39 r03, cOwn (α := Int) 3 v105z ([(1 : Int)]), cOwn (α := Raw 2) 60 u0_35 rr1_36, cRo Bs2_37, cOwn (α := Int) 3 v94z ([(0 : Int), (2 : Int), (4 : Int)]), cOwn (α := Int) 3 v92z ([(0 : Int)]), cOwn (α := Raw 2) 60 u0_30 rr1_31, cRo Bs2_32, cOwn (α := Int) 3 v81z ([(0 : Int), (2 : Int), (4 : Int), (5 : Int)]), cOwn (α := Int) 3 v79z ([(0 : Int)]), cOwn (α := Raw 2) 60 u0_25 rr1_26, cRo Bs2_27, cRo Bs_24, cRo Bs_23, cRo Bs_22, cRo Bs_21, cRo Bs_20, cOwn (α := Int) 3 v45z ([(0 : Int)]), cOwn (α := Raw 2) 60 u0_16 rr1_17, cRo Bs2_18, cRo Bs_15, cOwn (α := Int) 3 v32z ([(1 : Int)]), cOwn (α := Raw 2) 60 u0_11 rr1_12, cRo Bs2_13, cRo Bs_10, cOwn (α := Int) 3 v19z ([(0 : Int)]), cOwn (α := Raw 2) 60 u0_6 rr1_7, cRo Bs2_8, cRo Bs_5, cOwn (α := Note) 30 v6z ([(⟨(0 : Int), (2 : Int), (7 : Int)⟩ : Note), (⟨(1 : Int), (0 : Int), (9 : Int)⟩ : Note)]), cOwn (α := Raw 2) 60 u0_1 rr1_2, cRo Bs2_3] R := H.back H2_ rfl
 clear H2_
 refine sM (.tuple #[u0_51, I r15]) rfl <| sX [u0_51, I r15] u0_51 rfl rfl <| sX [u0_51, I r15] (I r15) rfl rfl <| sA u0_51 rfl <| sA (I r15) rfl <| s_nil <| W.seq <| sQ rfl <| sM (I r1) rfl <| sC r1 0 (r1 != 0) rfl rfl rfl <| sM (B (r1 != 0)) rfl ?_
 refine g_val (!(r1 != 0)) (gy_f rfl) (fun hg => x_mv (v := I r12) rfl) <| g_val (!(r1 != 0)) (gy_f rfl) (fun hg => x_cmp (kd := .i64) (a := r12) (b := 0) (r := r12 != 0) (gd_of (c := !(r1 != 0)) hg (I r12)) rfl rfl) <| s_val (x_por (b := r1 != 0) (r := r12 != 0) rfl rfl (fun hb => gd_of (c := !(r1 != 0)) (by first | exact hb | (rw [hb]; rfl) | simp_all) (B (r12 != 0)))) <| sM (B ((r1 != 0) || (r12 != 0))) rfl <| g_val (!((r1 != 0) || (r12 != 0))) (gy_f rfl) (fun hg => x_mv (v := I r13) rfl) <| g_val (!((r1 != 0) || (r12 != 0))) (gy_f rfl) (fun hg => x_cmp (kd := .i64) (a := r13) (b := 0) (r := r13 != 0) (gd_of (c := !((r1 != 0) || (r12 != 0))) hg (I r13)) rfl rfl) <| s_val (x_por (b := ((r1 != 0) || (r12 != 0))) (r := r13 != 0) rfl rfl (fun hb => gd_of (c := !((r1 != 0) || (r12 != 0))) (by first | exact hb | (rw [hb]; rfl) | simp_all) (B (r13 != 0)))) <| sM (B (((r1 != 0) || (r12 != 0)) || (r13 != 0))) rfl <| g_val (!(((r1 != 0) || (r12 != 0)) || (r13 != 0))) (gy_f rfl) (fun hg => x_mv (v := I r14) rfl) <| g_val (!(((r1 != 0) || (r12 != 0)) || (r13 != 0))) (gy_f rfl) (fun hg => x_cmp (kd := .i64) (a := r14) (b := 0) (r := r14 != 0) (gd_of (c := !(((r1 != 0) || (r12 != 0)) || (r13 != 0))) hg (I r14)) rfl rfl) <| s_val (x_por (b := (((r1 != 0) || (r12 != 0)) || (r13 != 0))) (r := r14 != 0) rfl rfl (fun hb => gd_of (c := !(((r1 != 0) || (r12 != 0)) || (r13 != 0))) (by first | exact hb | (rw [hb]; rfl) | simp_all) (B (r14 != 0)))) <| sM (B ((((r1 != 0) || (r12 != 0)) || (r13 != 0)) || (r14 != 0))) rfl ?_
 refine g_val (!((((r1 != 0) || (r12 != 0)) || (r13 != 0)) || (r14 != 0))) (gy_f rfl) (fun hg => x_mv (v := I r15) rfl) <| g_val (!((((r1 != 0) || (r12 != 0)) || (r13 != 0)) || (r14 != 0))) (gy_f rfl) (fun hg => x_cmp (kd := .i64) (a := r15) (b := 5) (r := r15 != 5) (gd_of (c := !((((r1 != 0) || (r12 != 0)) || (r13 != 0)) || (r14 != 0))) hg (I r15)) rfl rfl) <| s_val (x_por (b := ((((r1 != 0) || (r12 != 0)) || (r13 != 0)) || (r14 != 0))) (r := r15 != 5) rfl rfl (fun hb => gd_of (c := !((((r1 != 0) || (r12 != 0)) || (r13 != 0)) || (r14 != 0))) (by first | exact hb | (rw [hb]; rfl) | simp_all) (B (r15 != 5)))) <| sM (B (((((r1 != 0) || (r12 != 0)) || (r13 != 0)) || (r14 != 0)) || (r15 != 5))) rfl <| g_val (!(((((r1 != 0) || (r12 != 0)) || (r13 != 0)) || (r14 != 0)) || (r15 != 5))) (gy_f rfl) (fun hg => x_mv (v := B r0) rfl) <| g_val (!(((((r1 != 0) || (r12 != 0)) || (r13 != 0)) || (r14 != 0)) || (r15 != 5))) (gy_f rfl) (fun hg => x_not (b := r0) (gd_of (c := !(((((r1 != 0) || (r12 != 0)) || (r13 != 0)) || (r14 != 0)) || (r15 != 5))) hg (B r0))) <| s_val (x_por (b := (((((r1 != 0) || (r12 != 0)) || (r13 != 0)) || (r14 != 0)) || (r15 != 5))) (r := !r0) rfl rfl (fun hb => gd_of (c := !(((((r1 != 0) || (r12 != 0)) || (r13 != 0)) || (r14 != 0)) || (r15 != 5))) (by first | exact hb | (rw [hb]; rfl) | simp_all) (B (!r0)))) <| sM (B ((((((r1 != 0) || (r12 != 0)) || (r13 != 0)) || (r14 != 0)) || (r15 != 5)) || (!r0))) rfl <| g_val (!((((((r1 != 0) || (r12 != 0)) || (r13 != 0)) || (r14 != 0)) || (r15 != 5)) || (!r0))) (gy_f rfl) (fun hg => x_mv (v := B r02) rfl) <| s_val (x_por (b := ((((((r1 != 0) || (r12 != 0)) || (r13 != 0)) || (r14 != 0)) || (r15 != 5)) || (!r0))) (r := r02) rfl rfl (fun hb => gd_of (c := !((((((r1 != 0) || (r12 != 0)) || (r13 != 0)) || (r14 != 0)) || (r15 != 5)) || (!r0))) (by first | exact hb | (rw [hb]; rfl) | simp_all) (B r02))) <| sM (B (((((((r1 != 0) || (r12 != 0)) || (r13 != 0)) || (r14 != 0)) || (r15 != 5)) || (!r0)) || r02)) rfl <| g_val (!(((((((r1 != 0) || (r12 != 0)) || (r13 != 0)) || (r14 != 0)) || (r15 != 5)) || (!r0)) || r02)) (gy_f rfl) (fun hg => x_mv (v := u0_39) rfl) ?_
 refine t_gbs (α := Int) T34 (!(((((((r1 != 0) || (r12 != 0)) || (r13 != 0)) || (r14 != 0)) || (r15 != 5)) || (!r0)) || r02)) (gy_f rfl) [I 2, I 3] [(2 : Int), (3 : Int)] H (fun _ => rfl) (.cons rfl (Flat.rep_enc _ _) <| .cons rfl (Flat.rep_enc _ _) <| .nil) rfl rfl rfl ?_
 intro v134z Bs_52 w135z H hf136z
 obtain ⟨s5, hx137z, hM⟩ := M.e_bind hM
 replace hx137z := M.e_pure hx137z
 refine t_gcall (!(((((((r1 != 0) || (r12 != 0)) || (r13 != 0)) || (r14 != 0)) || (r15 != 5)) || (!r0)) || r02)) (gy_f rfl) cf25 (B s5) (fun _ => [u0_39, v134z]) (fun hg => lst2 (gd_of (c := !(((((((r1 != 0) || (r12 != 0)) || (r13 != 0)) || (r14 != 0)) || (r15 != 5)) || (!r0)) || r02)) hg (u0_39)) (gd_of (c := !(((((((r1 != 0) || (r12 != 0)) || (r13 != 0)) || (r14 != 0)) || (r15 != 5)) || (!r0)) || r02)) hg (v134z))) H (fun hg => Ret.mono (same_int _ ((ownSl (H.get (k := 10) rfl)).mono (ownLe _ (H.get (k := 10) rfl))) ((hf136z hg).mono (roLe _ (H.get (k := 0) rfl)))) fun v_ w_ ⟨hv_, hx_⟩ => ⟨hv_.trans (congrArg B hx137z), H.ext hx_⟩) ?_
 intro w138z H
 refine g_val (!(((((((r1 != 0) || (r12 != 0)) || (r13 != 0)) || (r14 != 0)) || (r15 != 5)) || (!r0)) || r02)) (gy_f rfl) (fun hg => x_not (b := s5) (gd_of (c := !(((((((r1 != 0) || (r12 != 0)) || (r13 != 0)) || (r14 != 0)) || (r15 != 5)) || (!r0)) || r02)) hg (B s5))) <| s_val (x_por (b := (((((((r1 != 0) || (r12 != 0)) || (r13 != 0)) || (r14 != 0)) || (r15 != 5)) || (!r0)) || r02)) (r := !s5) rfl rfl (fun hb => gd_of (c := !(((((((r1 != 0) || (r12 != 0)) || (r13 != 0)) || (r14 != 0)) || (r15 != 5)) || (!r0)) || r02)) (by first | exact hb | (rw [hb]; rfl) | simp_all) (B (!s5)))) <| sM (B ((((((((r1 != 0) || (r12 != 0)) || (r13 != 0)) || (r14 != 0)) || (r15 != 5)) || (!r0)) || r02) || (!s5))) rfl <| g_val (!((((((((r1 != 0) || (r12 != 0)) || (r13 != 0)) || (r14 != 0)) || (r15 != 5)) || (!r0)) || r02) || (!s5))) (gy_f rfl) (fun hg => x_mv (v := u0_44) rfl) <| g_val (!((((((((r1 != 0) || (r12 != 0)) || (r13 != 0)) || (r14 != 0)) || (r15 != 5)) || (!r0)) || r02) || (!s5))) (gy_f rfl) (fun hg => x_lenS T73.und (gd_of (c := !((((((((r1 != 0) || (r12 != 0)) || (r13 != 0)) || (r14 != 0)) || (r15 != 5)) || (!r0)) || r02) || (!s5))) hg (u0_44)) (rowSl rfl (H.get (k := 5) rfl) (roLe _ (H.get (k := 6) rfl)) hf122z)) <| g_val (!((((((((r1 != 0) || (r12 != 0)) || (r13 != 0)) || (r14 != 0)) || (r15 != 5)) || (!r0)) || r02) || (!s5))) (gy_f rfl) (fun hg => x_cmp (kd := .i64) (a := (r04.length : Int)) (b := 2) (r := (r04.length : Int) != 2) (gd_of (c := !((((((((r1 != 0) || (r12 != 0)) || (r13 != 0)) || (r14 != 0)) || (r15 != 5)) || (!r0)) || r02) || (!s5))) hg (I (r04.length : Int))) rfl rfl) <| s_val (x_por (b := ((((((((r1 != 0) || (r12 != 0)) || (r13 != 0)) || (r14 != 0)) || (r15 != 5)) || (!r0)) || r02) || (!s5))) (r := (r04.length : Int) != 2) rfl rfl (fun hb => gd_of (c := !((((((((r1 != 0) || (r12 != 0)) || (r13 != 0)) || (r14 != 0)) || (r15 != 5)) || (!r0)) || r02) || (!s5))) (by first | exact hb | (rw [hb]; rfl) | simp_all) (B ((r04.length : Int) != 2)))) <| s_nil ?_
 refine W.cond (((((((((r1 != 0) || (r12 != 0)) || (r13 != 0)) || (r14 != 0)) || (r15 != 5)) || (!r0)) || r02) || (!s5)) || ((r04.length : Int) != 2)) rfl (fun c140z => ?_) (fun c140z => ?_)
 ·replace hM := M.e_t hM c140z
  refine sQ rfl <| sA (B false) rfl <| s_nil ?_
  refine W.ret ?_
  have hr_ := M.e_pure hM
  exact ⟨_, resE_tmp rfl, ⟨false, hr_, rfl, (H.pick [] (by decide) rfl)⟩⟩
 replace hM := M.e_f hM c140z
 refine W.skip <| sQ rfl ?_
 obtain ⟨r142z, hx141z, hM⟩ := M.e_bind hM
 refine s_call cf79 [] rfl (nilometerlaw13_Six_ok hx141z _ (St.give (T := [cRo Bs_52, cOwn (α := Int) 3 u0_51 r05, cOwn (α := Int) 3 v128z ([(1 : Int)]), cOwn (α := Raw 2) 60 u0_47 rr1_48, cRo Bs2_49, cOwn (α := Raw 0) 34 u0_44 rr1_45, cRo Bs2_46, cOwn (α := Int) 3 v116z ([(1 : Int)]), cOwn (α := Raw 2) 60 u0_40 rr1_41, cRo Bs2_42, cOwn (α := Int) 3 u0_39 r03, cOwn (α := Int) 3 v105z ([(1 : Int)]), cOwn (α := Raw 2) 60 u0_35 rr1_36, cRo Bs2_37, cOwn (α := Int) 3 v94z ([(0 : Int), (2 : Int), (4 : Int)]), cOwn (α := Int) 3 v92z ([(0 : Int)]), cOwn (α := Raw 2) 60 u0_30 rr1_31, cRo Bs2_32, cOwn (α := Int) 3 v81z ([(0 : Int), (2 : Int), (4 : Int), (5 : Int)]), cOwn (α := Int) 3 v79z ([(0 : Int)]), cOwn (α := Raw 2) 60 u0_25 rr1_26, cRo Bs2_27, cRo Bs_24, cRo Bs_23, cRo Bs_22, cRo Bs_21, cRo Bs_20, cOwn (α := Int) 3 v45z ([(0 : Int)]), cOwn (α := Raw 2) 60 u0_16 rr1_17, cRo Bs2_18, cRo Bs_15, cOwn (α := Int) 3 v32z ([(1 : Int)]), cOwn (α := Raw 2) 60 u0_11 rr1_12, cRo Bs2_13, cRo Bs_10, cOwn (α := Int) 3 v19z ([(0 : Int)]), cOwn (α := Raw 2) 60 u0_6 rr1_7, cRo Bs2_8, cRo Bs_5, cOwn (α := Note) 30 v6z ([(⟨(0 : Int), (2 : Int), (7 : Int)⟩ : Note), (⟨(1 : Int), (0 : Int), (9 : Int)⟩ : Note)]), cOwn (α := Raw 2) 60 u0_1 rr1_2, cRo Bs2_3]) H rfl)) ?_
 rintro vq w143z ⟨r11, u0_53, rr1_54, Bs2_55, hr144z, hvq, H2_, hf145z⟩
 subst hr144z
 subst vq
 try dsimp only at hM
 replace H : St w w143z [cOwn (α := Raw 2) 60 u0_53 rr1_54, cRo Bs2_55, cRo Bs_52, cOwn (α := Int) 3 u0_51 r05, cOwn (α := Int) 3 v128z ([(1 : Int)]), cOwn (α := Raw 2) 60 u0_47 rr1_48, cRo Bs2_49, cOwn (α := Raw 0) 34 u0_44 rr1_45, cRo Bs2_46, cOwn (α := Int) 3 v116z ([(1 : Int)]), cOwn (α := Raw 2) 60 u0_40 rr1_41, cRo Bs2_42, cOwn (α := Int) 3 u0_39 r03, cOwn (α := Int) 3 v105z ([(1 : Int)]), cOwn (α := Raw 2) 60 u0_35 rr1_36, cRo Bs2_37, cOwn (α := Int) 3 v94z ([(0 : Int), (2 : Int), (4 : Int)]), cOwn (α := Int) 3 v92z ([(0 : Int)]), cOwn (α := Raw 2) 60 u0_30 rr1_31, cRo Bs2_32, cOwn (α := Int) 3 v81z ([(0 : Int), (2 : Int), (4 : Int), (5 : Int)]), cOwn (α := Int) 3 v79z ([(0 : Int)]), cOwn (α := Raw 2) 60 u0_25 rr1_26, cRo Bs2_27, cRo Bs_24, cRo Bs_23, cRo Bs_22, cRo Bs_21, cRo Bs_20, cOwn (α := Int) 3 v45z ([(0 : Int)]), cOwn (α := Raw 2) 60 u0_16 rr1_17, cRo Bs2_18, cRo Bs_15, cOwn (α := Int) 3 v32z ([(1 : Int)]), cOwn (α := Raw 2) 60 u0_11 rr1_12, cRo Bs2_13, cRo Bs_10, cOwn (α := Int) 3 v19z ([(0 : Int)]), cOwn (α := Raw 2) 60 u0_6 rr1_7, cRo Bs2_8, cRo Bs_5, cOwn (α := Note) 30 v6z ([(⟨(0 : Int), (2 : Int), (7 : Int)⟩ : Note), (⟨(1 : Int), (0 : Int), (9 : Int)⟩ : Note)]), cOwn (α := Raw 2) 60 u0_1 rr1_2, cRo Bs2_3] R := H.back H2_ rfl
 clear H2_
 refine s_val (x_bld (ps := [(0, I 0), (1, I 3), (2, I 8)]) (zs := [I 0, I 0, I 0]) (L' := [I 0, I 3, I 8]) rfl Try.underlying30 Al30 rfl (Bd30 Try.underlying30) (.cons (cs := [I 0]) rfl rfl rfl rfl rfl <| .cons (cs := [I 3]) rfl rfl rfl rfl rfl <| .cons (cs := [I 8]) rfl rfl rfl rfl rfl <| .nil)) <| s_val (x_bld (ps := [(0, I 0), (1, I 2), (2, I 7)]) (zs := [I 0, I 0, I 0]) (L' := [I 0, I 2, I 7]) rfl Try.underlying30 Al30 rfl (Bd30 Try.underlying30) (.cons (cs := [I 0]) rfl rfl rfl rfl rfl <| .cons (cs := [I 2]) rfl rfl rfl rfl rfl <| .cons (cs := [I 7]) rfl rfl rfl rfl rfl <| .nil)) <| s_val (x_bld (ps := [(0, I 1), (2, I 9)]) (zs := [I 0, I 0, I 0]) (L' := [I 1, I 0, I 9]) rfl Try.underlying30 Al30 rfl (Bd30 Try.underlying30) (.cons (cs := [I 1]) rfl rfl rfl rfl rfl <| .cons (cs := [I 9]) rfl rfl rfl rfl rfl <| .nil)) ?_
 refine t_bs (α := Note) T23 [.agg #[I 0, I 3, I 8], .agg #[I 0, I 2, I 7], .agg #[I 1, I 0, I 9]] [(⟨(0 : Int), (3 : Int), (8 : Int)⟩ : Note), (⟨(0 : Int), (2 : Int), (7 : Int)⟩ : Note), (⟨(1 : Int), (0 : Int), (9 : Int)⟩ : Note)] H rfl (.cons rfl (Flat.rep_enc _ (⟨(0 : Int), (3 : Int), (8 : Int)⟩ : Note)) <| .cons rfl (Flat.rep_enc _ (⟨(0 : Int), (2 : Int), (7 : Int)⟩ : Note)) <| .cons rfl (Flat.rep_enc _ (⟨(1 : Int), (0 : Int), (9 : Int)⟩ : Note)) <| .nil) rfl rfl rfl ?_
 intro v146z w147z H
 refine s_val (x_bld (ps := [(0, I 2), (1, I 26)]) (zs := [I 0, I 0]) (L' := [I 2, I 26]) rfl Try.underlying33 Al33 rfl (Bd33 Try.underlying33) (.cons (cs := [I 2]) rfl rfl rfl rfl rfl <| .cons (cs := [I 26]) rfl rfl rfl rfl rfl <| .nil)) <| s_val (x_bld (ps := [(0, I 3), (1, I 10)]) (zs := [I 0, I 0]) (L' := [I 3, I 10]) rfl Try.underlying33 Al33 rfl (Bd33 Try.underlying33) (.cons (cs := [I 3]) rfl rfl rfl rfl rfl <| .cons (cs := [I 10]) rfl rfl rfl rfl rfl <| .nil)) ?_
 refine t_bs (α := Pub) T24 [.agg #[I 2, I 26], .agg #[I 3, I 10]] [(⟨(2 : Int), (26 : Int)⟩ : Pub), (⟨(3 : Int), (10 : Int)⟩ : Pub)] H rfl (.cons rfl (Flat.rep_enc _ (⟨(2 : Int), (26 : Int)⟩ : Pub)) <| .cons rfl (Flat.rep_enc _ (⟨(3 : Int), (10 : Int)⟩ : Pub)) <| .nil) rfl rfl rfl ?_
 intro v148z w149z H
 obtain ⟨⟨l5, e5⟩, hx153z, hM⟩ := M.e_bind hM
 obtain ⟨hq154z, hq155z⟩ := Prod.mk.inj (M.e_pure hx153z)
 try dsimp only at hM
 refine s_call cf26 [u0_53, v146z, v148z] rfl (by have hc_ := (Withdrawn_any _ ((rowSl rfl (H.get (k := 2) rfl) (roLe _ (H.get (k := 3) rfl)) hf145z).mono (Cells.sup_le (ownLe _ (H.get (k := 2) rfl)) (roLe _ (H.get (k := 3) rfl)))) ((ownSl (H.get (k := 1) rfl)).mono (ownLe _ (H.get (k := 1) rfl))) ((ownSl (H.get (k := 0) rfl)).mono (ownLe _ (H.get (k := 0) rfl)))); rw [hq154z, hq155z] at hc_; exact hc_) ?_
 rintro _ w150z ⟨u151z, rfl, hs152z, hx_⟩
 obtain ⟨Bs_58, H, hs152z⟩ := H.fresh hx_ hs152z
 clear hx_
 have hl_hs152z := hs152z.len_le
 refine sM (.tuple #[u151z, I e5]) rfl <| sX [u151z, I e5] u151z rfl rfl <| sX [u151z, I e5] (I e5) rfl rfl <| sA u151z rfl <| sA (I e5) rfl <| s_nil <| sQ rfl <| sM (I e5) rfl <| sC e5 0 (e5 == 0) rfl rfl rfl <| sM (B (e5 == 0)) rfl <| g_val (e5 == 0) (gy_t rfl) (fun hg => x_mv (v := u151z) rfl) ?_
 refine t_gbs (α := Int) T34 (e5 == 0) (gy_t rfl) [I 0] [(0 : Int)] H (fun _ => rfl) (.cons rfl (Flat.rep_enc _ _) <| .nil) rfl rfl rfl ?_
 intro v156z Bs_59 w157z H hf158z
 obtain ⟨s6, hx159z, hM⟩ := M.e_bind hM
 replace hx159z := M.e_pure hx159z
 refine t_gcall (e5 == 0) (gy_t rfl) cf25 (B s6) (fun _ => [u151z, v156z]) (fun hg => lst2 (gd_of (c := e5 == 0) hg (u151z)) (gd_of (c := e5 == 0) hg (v156z))) H (fun hg => Ret.mono (same_int _ (hs152z.mono (roLe _ (H.get (k := 1) rfl))) ((hf158z hg).mono (roLe _ (H.get (k := 0) rfl)))) fun v_ w_ ⟨hv_, hx_⟩ => ⟨hv_.trans (congrArg B hx159z), H.ext hx_⟩) ?_
 intro w160z H
 refine s_val (x_pand (b := e5 == 0) (r := s6) rfl (fun hb => gd_of (c := e5 == 0) (by first | exact hb | (rw [hb]; rfl) | simp_all) (B s6)) rfl) <| sA (B ((e5 == 0) && s6)) rfl <| s_nil ?_
 refine W.ret ?_
 have hr_ := M.e_pure hM
 exact ⟨_, resE_tmp rfl, ⟨((e5 == 0) && s6), hr_, rfl, (H.pick [] (by decide) rfl)⟩⟩

end Go.Proofs.Ytndobgodeicloaa
end
section
set_option maxRecDepth 100000
set_option maxHeartbeats 16000000
namespace Go.Proofs.Ytndobgodeicloaa
open Go Go.Nm
def m_nilometerkit_New (bytes : List UInt8) : M (Int × Int) :=
  M.pure (0, 0)
theorem nilometerkit_New_ok {R : List Chunk} {C_bytes : Cells} {v_bytes : Value} (bytes : List UInt8) (hC_bytes : Reads R C_bytes) (hs_bytes : Sl C_bytes v_bytes bytes) {r : (Int × Int)} (hM : (m_nilometerkit_New bytes).Ends r) (w : World) (H : St w w [] R) : Ret Try.prog 40 #[v_bytes] w fun v w' => ∃ (y0 : Int) (y1 : Int) (nb0 : Nat), (y0, y1) = r ∧ v = Pz nb0 ∧ St w w' [cBlk nb0 [v_bytes, I y0, I y1] 158] R := by
 refine ret_of_W Try.func40 rfl rfl rfl ?_
 refine sQ rfl <| sA (.pointer none) rfl <| s_nil <| sQ rfl <| sM v_bytes rfl <| s_val (x_bld (ps := [(0, v_bytes)]) (zs := [.slice none 0 0, I 0, I 0]) (L' := [v_bytes, I 0, I 0]) rfl Try.underlying158 Al158 rfl (Bd158 Try.underlying158) (.cons (cs := [v_bytes]) (Sl.cells hs_bytes) rfl rfl rfl rfl <| .nil)) ?_
 refine t_box (v := .agg #[v_bytes, I 0, I 0]) (cs := [v_bytes, I 0, I 0]) H rfl rfl ?_
 intro b_1 w1z H
 refine sA (Pz b_1) rfl <| s_nil ?_
 refine W.ret ?_
 have hr_ := M.e_pure hM
 exact ⟨_, resE_tmp rfl, ⟨0, 0, b_1, hr_, rfl, H⟩⟩

def m_nilometerkit_Stream_Next (s_bytes : List UInt8) (s_used : Int) (s_mix : Int) (n : Int) : M (Int × Int × Int) :=
  bif ((decide (n < 2)) || ((s_bytes.length : Int) == 0)) then (
  M.pure (0, s_used, s_mix))
  else (
  M.grd (decide ((0 : Int) ≤ s_used) && decide ((0 : Int) < (s_bytes.length : Int))) <|
  M.grd (decide ((0 : Int) ≤ (s_used % (s_bytes.length : Int))) && decide ((s_used % (s_bytes.length : Int)) < (s_bytes.length : Int))) <|
  M.grd (decide ((0 : Int) ≤ ((s_bytes.getD (Int.toNat (s_used % (s_bytes.length : Int))) 0).toNat : Int)) && decide (((s_bytes.getD (Int.toNat (s_used % (s_bytes.length : Int))) 0).toNat : Int) < (256 : Int))) <|
  bif decide ((s_bytes.length : Int) ≤ s_used) then (
  M.grd (decide ((-9223372036854775808 : Int) ≤ (11 * s_mix)) && decide ((11 * s_mix) ≤ (9223372036854775807 : Int))) <|
  M.grd (decide (0 ≤ s_used) && decide (s_used ≤ (9223372036854775807 : Int)) && decide ((0 : Int) < (s_bytes.length : Int))) <|
  M.grd (decide ((-9223372036854775808 : Int) ≤ ((11 * s_mix) + (s_used / (s_bytes.length : Int)))) && decide (((11 * s_mix) + (s_used / (s_bytes.length : Int))) ≤ (9223372036854775807 : Int))) <|
  M.grd (decide ((-9223372036854775808 : Int) ≤ (((s_bytes.getD (Int.toNat (s_used % (s_bytes.length : Int))) 0).toNat : Int) + ((11 * s_mix) + (s_used / (s_bytes.length : Int))))) && decide ((((s_bytes.getD (Int.toNat (s_used % (s_bytes.length : Int))) 0).toNat : Int) + ((11 * s_mix) + (s_used / (s_bytes.length : Int)))) ≤ (9223372036854775807 : Int))) <|
  M.grd (decide ((-9223372036854775808 : Int) ≤ (5 * s_mix)) && decide ((5 * s_mix) ≤ (9223372036854775807 : Int))) <|
  M.grd (decide ((-9223372036854775808 : Int) ≤ ((5 * s_mix) + (((s_bytes.getD (Int.toNat (s_used % (s_bytes.length : Int))) 0).toNat : Int) + ((11 * s_mix) + (s_used / (s_bytes.length : Int)))))) && decide (((5 * s_mix) + (((s_bytes.getD (Int.toNat (s_used % (s_bytes.length : Int))) 0).toNat : Int) + ((11 * s_mix) + (s_used / (s_bytes.length : Int))))) ≤ (9223372036854775807 : Int))) <|
  M.grd (decide ((-9223372036854775808 : Int) ≤ (((5 * s_mix) + (((s_bytes.getD (Int.toNat (s_used % (s_bytes.length : Int))) 0).toNat : Int) + ((11 * s_mix) + (s_used / (s_bytes.length : Int))))) + 1)) && decide ((((5 * s_mix) + (((s_bytes.getD (Int.toNat (s_used % (s_bytes.length : Int))) 0).toNat : Int) + ((11 * s_mix) + (s_used / (s_bytes.length : Int))))) + 1) ≤ (9223372036854775807 : Int))) <|
  M.grd (decide ((0 : Int) ≤ (((5 * s_mix) + (((s_bytes.getD (Int.toNat (s_used % (s_bytes.length : Int))) 0).toNat : Int) + ((11 * s_mix) + (s_used / (s_bytes.length : Int))))) + 1)) && decide ((0 : Int) < 251)) <|
  M.grd (decide ((-9223372036854775808 : Int) ≤ (s_used + 1)) && decide ((s_used + 1) ≤ (9223372036854775807 : Int))) <|
  bif decide (256 < n) then (
  M.grd (decide ((-9223372036854775808 : Int) ≤ (256 * (((s_bytes.getD (Int.toNat (s_used % (s_bytes.length : Int))) 0).toNat : Int) + ((11 * s_mix) + (s_used / (s_bytes.length : Int)))))) && decide ((256 * (((s_bytes.getD (Int.toNat (s_used % (s_bytes.length : Int))) 0).toNat : Int) + ((11 * s_mix) + (s_used / (s_bytes.length : Int))))) ≤ (9223372036854775807 : Int))) <|
  M.grd (decide ((-9223372036854775808 : Int) ≤ ((256 * (((s_bytes.getD (Int.toNat (s_used % (s_bytes.length : Int))) 0).toNat : Int) + ((11 * s_mix) + (s_used / (s_bytes.length : Int))))) + ((((5 * s_mix) + (((s_bytes.getD (Int.toNat (s_used % (s_bytes.length : Int))) 0).toNat : Int) + ((11 * s_mix) + (s_used / (s_bytes.length : Int))))) + 1) % 251))) && decide (((256 * (((s_bytes.getD (Int.toNat (s_used % (s_bytes.length : Int))) 0).toNat : Int) + ((11 * s_mix) + (s_used / (s_bytes.length : Int))))) + ((((5 * s_mix) + (((s_bytes.getD (Int.toNat (s_used % (s_bytes.length : Int))) 0).toNat : Int) + ((11 * s_mix) + (s_used / (s_bytes.length : Int))))) + 1) % 251)) ≤ (9223372036854775807 : Int))) <|
  M.grd (decide ((0 : Int) ≤ ((256 * (((s_bytes.getD (Int.toNat (s_used % (s_bytes.length : Int))) 0).toNat : Int) + ((11 * s_mix) + (s_used / (s_bytes.length : Int))))) + ((((5 * s_mix) + (((s_bytes.getD (Int.toNat (s_used % (s_bytes.length : Int))) 0).toNat : Int) + ((11 * s_mix) + (s_used / (s_bytes.length : Int))))) + 1) % 251))) && decide ((0 : Int) < n)) <|
  M.pure ((((256 * (((s_bytes.getD (Int.toNat (s_used % (s_bytes.length : Int))) 0).toNat : Int) + ((11 * s_mix) + (s_used / (s_bytes.length : Int))))) + ((((5 * s_mix) + (((s_bytes.getD (Int.toNat (s_used % (s_bytes.length : Int))) 0).toNat : Int) + ((11 * s_mix) + (s_used / (s_bytes.length : Int))))) + 1) % 251)) % n), (s_used + 1), ((((5 * s_mix) + (((s_bytes.getD (Int.toNat (s_used % (s_bytes.length : Int))) 0).toNat : Int) + ((11 * s_mix) + (s_used / (s_bytes.length : Int))))) + 1) % 251)))
  else (
  M.grd (decide ((0 : Int) ≤ (((s_bytes.getD (Int.toNat (s_used % (s_bytes.length : Int))) 0).toNat : Int) + ((11 * s_mix) + (s_used / (s_bytes.length : Int))))) && decide ((0 : Int) < n)) <|
  M.pure (((((s_bytes.getD (Int.toNat (s_used % (s_bytes.length : Int))) 0).toNat : Int) + ((11 * s_mix) + (s_used / (s_bytes.length : Int)))) % n), (s_used + 1), ((((5 * s_mix) + (((s_bytes.getD (Int.toNat (s_used % (s_bytes.length : Int))) 0).toNat : Int) + ((11 * s_mix) + (s_used / (s_bytes.length : Int))))) + 1) % 251))))
  else (
  M.grd (decide ((-9223372036854775808 : Int) ≤ (5 * s_mix)) && decide ((5 * s_mix) ≤ (9223372036854775807 : Int))) <|
  M.grd (decide ((-9223372036854775808 : Int) ≤ ((5 * s_mix) + ((s_bytes.getD (Int.toNat (s_used % (s_bytes.length : Int))) 0).toNat : Int))) && decide (((5 * s_mix) + ((s_bytes.getD (Int.toNat (s_used % (s_bytes.length : Int))) 0).toNat : Int)) ≤ (9223372036854775807 : Int))) <|
  M.grd (decide ((-9223372036854775808 : Int) ≤ (((5 * s_mix) + ((s_bytes.getD (Int.toNat (s_used % (s_bytes.length : Int))) 0).toNat : Int)) + 1)) && decide ((((5 * s_mix) + ((s_bytes.getD (Int.toNat (s_used % (s_bytes.length : Int))) 0).toNat : Int)) + 1) ≤ (9223372036854775807 : Int))) <|
  M.grd (decide ((0 : Int) ≤ (((5 * s_mix) + ((s_bytes.getD (Int.toNat (s_used % (s_bytes.length : Int))) 0).toNat : Int)) + 1)) && decide ((0 : Int) < 251)) <|
  M.grd (decide ((-9223372036854775808 : Int) ≤ (s_used + 1)) && decide ((s_used + 1) ≤ (9223372036854775807 : Int))) <|
  bif decide (256 < n) then (
  M.grd (decide ((-9223372036854775808 : Int) ≤ (256 * ((s_bytes.getD (Int.toNat (s_used % (s_bytes.length : Int))) 0).toNat : Int))) && decide ((256 * ((s_bytes.getD (Int.toNat (s_used % (s_bytes.length : Int))) 0).toNat : Int)) ≤ (9223372036854775807 : Int))) <|
  M.grd (decide ((-9223372036854775808 : Int) ≤ ((256 * ((s_bytes.getD (Int.toNat (s_used % (s_bytes.length : Int))) 0).toNat : Int)) + ((((5 * s_mix) + ((s_bytes.getD (Int.toNat (s_used % (s_bytes.length : Int))) 0).toNat : Int)) + 1) % 251))) && decide (((256 * ((s_bytes.getD (Int.toNat (s_used % (s_bytes.length : Int))) 0).toNat : Int)) + ((((5 * s_mix) + ((s_bytes.getD (Int.toNat (s_used % (s_bytes.length : Int))) 0).toNat : Int)) + 1) % 251)) ≤ (9223372036854775807 : Int))) <|
  M.grd (decide ((0 : Int) ≤ ((256 * ((s_bytes.getD (Int.toNat (s_used % (s_bytes.length : Int))) 0).toNat : Int)) + ((((5 * s_mix) + ((s_bytes.getD (Int.toNat (s_used % (s_bytes.length : Int))) 0).toNat : Int)) + 1) % 251))) && decide ((0 : Int) < n)) <|
  M.pure ((((256 * ((s_bytes.getD (Int.toNat (s_used % (s_bytes.length : Int))) 0).toNat : Int)) + ((((5 * s_mix) + ((s_bytes.getD (Int.toNat (s_used % (s_bytes.length : Int))) 0).toNat : Int)) + 1) % 251)) % n), (s_used + 1), ((((5 * s_mix) + ((s_bytes.getD (Int.toNat (s_used % (s_bytes.length : Int))) 0).toNat : Int)) + 1) % 251)))
  else (
  M.grd (decide ((0 : Int) ≤ ((s_bytes.getD (Int.toNat (s_used % (s_bytes.length : Int))) 0).toNat : Int)) && decide ((0 : Int) < n)) <|
  M.pure ((((s_bytes.getD (Int.toNat (s_used % (s_bytes.length : Int))) 0).toNat : Int) % n), (s_used + 1), ((((5 * s_mix) + ((s_bytes.getD (Int.toNat (s_used % (s_bytes.length : Int))) 0).toNat : Int)) + 1) % 251)))))
theorem nilometerkit_Stream_Next_ok {R : List Chunk} {b_s : Nat} {C_s_bytes : Cells} {v_s_bytes : Value} (s_bytes : List UInt8) (s_used : Int) (s_mix : Int) (n : Int) (hC_s_bytes : Reads R C_s_bytes) (hs_s_bytes : Sl C_s_bytes v_s_bytes s_bytes) {r : (Int × Int × Int)} (hM : (m_nilometerkit_Stream_Next s_bytes s_used s_mix n).Ends r) (w : World) (H : St w w [cBlk b_s [v_s_bytes, I s_used, I s_mix] 158] R) : Ret Try.prog 44 #[Pz b_s, I n] w fun v w' => ∃ (y0 : Int) (y1 : Int) (y2 : Int), (y0, y1, y2) = r ∧ v = I y0 ∧ St w w' [cBlk b_s [v_s_bytes, I y1, I y2] 158] R := by
 refine ret_of_W Try.func44 rfl rfl rfl ?_
 refine sQ rfl <| sA (I 0) rfl <| s_nil <| W.seq <| sQ rfl <| sM (I n) rfl <| sC n 2 (decide (n < 2)) rfl rfl rfl <| sM (B (decide (n < 2))) rfl <| g_val (!(decide (n < 2))) (gy_f rfl) (fun hg => x_mv (v := Pz b_s) rfl) <| g_val (!(decide (n < 2))) (gy_f rfl) (fun hg => x_nc (a := ⟨b_s, 0, none⟩) (gd_of (c := !(decide (n < 2))) hg (Pz b_s))) ?_
 refine g_val (!(decide (n < 2))) (gy_f rfl) (fun hg => x_fa (a := Pz b_s) (v := Pz b_s) (gd_of (c := !(decide (n < 2))) hg (Pz b_s)) (fa_blk (o := 0) Fd158_0 Sz62)) <| g_val (!(decide (n < 2))) (gy_f rfl) (fun hg => x_ld (p := Pz b_s) (v := v_s_bytes) (gd_of (c := !(decide (n < 2))) hg (Pz b_s)) (ldb_sc Sc62 (H.blk (k := 0) rfl) rfl)) <| g_val (!(decide (n < 2))) (gy_f rfl) (fun hg => x_lenS T62.und (gd_of (c := !(decide (n < 2))) hg (v_s_bytes)) hs_s_bytes) <| g_val (!(decide (n < 2))) (gy_f rfl) (fun hg => x_cmp (kd := .i64) (a := (s_bytes.length : Int)) (b := 0) (r := (s_bytes.length : Int) == 0) (gd_of (c := !(decide (n < 2))) hg (I (s_bytes.length : Int))) rfl rfl) <| s_val (x_por (b := decide (n < 2)) (r := (s_bytes.length : Int) == 0) rfl rfl (fun hb => gd_of (c := !(decide (n < 2))) (by first | exact hb | (rw [hb]; rfl) | simp_all) (B ((s_bytes.length : Int) == 0)))) <| s_nil ?_
 refine W.cond ((decide (n < 2)) || ((s_bytes.length : Int) == 0)) rfl (fun c2z => ?_) (fun c2z => ?_)
 ·replace hM := M.e_t hM c2z
  refine sQ rfl <| sA (I 0) rfl <| s_nil ?_
  refine W.ret ?_
  have hr_ := M.e_pure hM
  exact ⟨_, resE_tmp rfl, ⟨0, s_used, s_mix, hr_, rfl, H⟩⟩
 replace hM := M.e_f hM c2z
 refine W.skip <| W.seq ?_
 refine W.draw (fun W => St w W [cBlk b_s [v_s_bytes, I s_used, I s_mix] 158] R) [(0, true), (1, true), (2, true), (3, true), (4, true), (5, true), (6, true), (7, true), (8, true), (9, true), (10, true), (11, true), (12, true), (13, true), (14, true), (15, true), (16, true), (17, true)] mixed (by decide +kernel) rfl ?_
 intro w3z hx_
 replace H : St w w3z [cBlk b_s [v_s_bytes, I s_used, I s_mix] 158] R := H.ext hx_
 clear hx_
 refine ⟨(H.pick [0] (by decide) rfl), ?_⟩
 refine d_q rfl (fun w' H => x_mv (v := Pz b_s) rfl) ?_
 refine d_q rfl (fun w' H => x_nc (a := ⟨b_s, 0, none⟩) rfl) ?_
 refine d_q rfl (fun w' H => x_fa (a := Pz b_s) (v := Pz b_s) rfl (fa_blk (o := 0) Fd158_0 Sz62)) ?_
 refine d_q rfl (fun w' H => x_ld (p := Pz b_s) (v := v_s_bytes) rfl (ldb_sc Sc62 (H.blk (k := 0) rfl) rfl)) ?_
 refine d_q rfl (fun w' H => x_mv (v := Pz b_s) rfl) ?_
 refine d_q rfl (fun w' H => x_nc (a := ⟨b_s, 0, none⟩) rfl) ?_
 refine d_q rfl (fun w' H => x_fa (a := Pz b_s) (v := Oz b_s 1) rfl (fa_blk (o := 0) Fd158_1 Sz3)) ?_
 refine d_q rfl (fun w' H => x_ld (p := Oz b_s 1) (v := I s_used) rfl (ldb_sc Sc3 (H.blk (k := 0) rfl) rfl)) ?_
 refine d_q rfl (fun w' H => x_mv (v := Pz b_s) rfl) ?_
 refine d_q rfl (fun w' H => x_nc (a := ⟨b_s, 0, none⟩) rfl) ?_
 refine d_q rfl (fun w' H => x_fa (a := Pz b_s) (v := Pz b_s) rfl (fa_blk (o := 0) Fd158_0 Sz62)) ?_
 refine d_q rfl (fun w' H => x_ld (p := Pz b_s) (v := v_s_bytes) rfl (ldb_sc Sc62 (H.blk (k := 0) rfl) rfl)) ?_
 have hl4z := (hs_s_bytes).len_le
 refine d_q rfl (fun w' H => x_lenS T62.und rfl hs_s_bytes) ?_
 obtain ⟨sd5z, hM⟩ := M.e_gd hM
 refine d_q rfl (fun w' H => x_rem' (a := s_used) (b := (s_bytes.length : Int)) rfl rfl (by omega)) ?_
 obtain ⟨sd6z, hM⟩ := M.e_gd hM
 refine d_q rfl (fun w' H => x_ix (a := v_s_bytes) (b := I (s_used % (s_bytes.length : Int))) (v := vat v_s_bytes 1 (Int.toNat (s_used % (s_bytes.length : Int)))) rfl rfl (Sl.ix (α := UInt8) T62.und T62.size hs_s_bytes (by omega) (by omega))) ?_
 refine d_q rfl (fun w' H => x_ld (p := vat v_s_bytes 1 (Int.toNat (s_used % (s_bytes.length : Int)))) (v := .int .u8 (((s_bytes.getD (Int.toNat (s_used % (s_bytes.length : Int))) 0).toNat : Int))) rfl (ld_sc Sc5 (At.mono (UInt8_at hs_s_bytes (i := s_used % (s_bytes.length : Int)) (by omega) (by omega)) (hC_s_bytes.at H)))) ?_
 obtain ⟨sd7z, hM⟩ := M.e_gd hM
 refine d_q rfl (fun w' H => x_conv64 (kd := .u8) (a := ((s_bytes.getD (Int.toNat (s_used % (s_bytes.length : Int))) 0).toNat : Int)) Try.underlying5 Try.underlying3 rfl (by omega)) ?_
 refine d_q rfl (fun w' H => x_as (v := I ((s_bytes.getD (Int.toNat (s_used % (s_bytes.length : Int))) 0).toNat : Int)) rfl) ?_
 refine d_nil ?_
 refine W.seq <| W.seq ?_
 refine W.draw (fun W => St w W [cBlk b_s [v_s_bytes, I s_used, I s_mix] 158] R) [(0, true), (1, true), (2, true), (3, true), (4, true), (5, true), (6, true), (7, true), (8, true), (9, true)] mixed (by decide +kernel) rfl ?_
 intro w8z hx_
 replace H : St w w8z [cBlk b_s [v_s_bytes, I s_used, I s_mix] 158] R := H.ext hx_
 clear hx_
 refine ⟨(H.pick [0] (by decide) rfl), ?_⟩
 refine d_q rfl (fun w' H => x_mv (v := Pz b_s) rfl) ?_
 refine d_q rfl (fun w' H => x_nc (a := ⟨b_s, 0, none⟩) rfl) ?_
 refine d_q rfl (fun w' H => x_fa (a := Pz b_s) (v := Oz b_s 1) rfl (fa_blk (o := 0) Fd158_1 Sz3)) ?_
 refine d_q rfl (fun w' H => x_ld (p := Oz b_s 1) (v := I s_used) rfl (ldb_sc Sc3 (H.blk (k := 0) rfl) rfl)) ?_
 refine d_q rfl (fun w' H => x_mv (v := Pz b_s) rfl) ?_
 refine d_q rfl (fun w' H => x_nc (a := ⟨b_s, 0, none⟩) rfl) ?_
 refine d_q rfl (fun w' H => x_fa (a := Pz b_s) (v := Pz b_s) rfl (fa_blk (o := 0) Fd158_0 Sz62)) ?_
 refine d_q rfl (fun w' H => x_ld (p := Pz b_s) (v := v_s_bytes) rfl (ldb_sc Sc62 (H.blk (k := 0) rfl) rfl)) ?_
 have hl9z := (hs_s_bytes).len_le
 refine d_q rfl (fun w' H => x_lenS T62.und rfl hs_s_bytes) ?_
 refine d_q rfl (fun w' H => x_cmp (kd := .i64) (a := s_used) (b := (s_bytes.length : Int)) (r := decide ((s_bytes.length : Int) ≤ s_used)) rfl rfl rfl) ?_
 refine d_nil ?_
 refine W.cond (decide ((s_bytes.length : Int) ≤ s_used)) rfl (fun c10z => ?_) (fun c10z => ?_)
 ·replace hM := M.e_t hM c10z
  simp only [qz1, qz2, qz3, qz4, qz5, qz6, ne_eq, qz7] at c10z
  refine W.draw (fun W => St w W [cBlk b_s [v_s_bytes, I s_used, I s_mix] 158] R) [(0, true), (1, true), (2, true), (3, true), (4, true), (5, true), (6, true), (7, true), (8, true), (9, true), (10, true), (11, true), (12, true), (13, true), (14, true), (15, true), (16, true), (17, true), (18, true)] mixed (by decide +kernel) rfl ?_
  intro w11z hx_
  replace H : St w w11z [cBlk b_s [v_s_bytes, I s_used, I s_mix] 158] R := H.ext hx_
  clear hx_
  refine ⟨(H.pick [0] (by decide) rfl), ?_⟩
  refine d_q rfl (fun w' H => x_mv (v := I ((s_bytes.getD (Int.toNat (s_used % (s_bytes.length : Int))) 0).toNat : Int)) rfl) ?_
  refine d_q rfl (fun w' H => x_mv (v := Pz b_s) rfl) ?_
  refine d_q rfl (fun w' H => x_nc (a := ⟨b_s, 0, none⟩) rfl) ?_
  refine d_q rfl (fun w' H => x_fa (a := Pz b_s) (v := Oz b_s 2) rfl (fa_blk (o := 0) Fd158_2 Sz3)) ?_
  refine d_q rfl (fun w' H => x_ld (p := Oz b_s 2) (v := I s_mix) rfl (ldb_sc Sc3 (H.blk (k := 0) rfl) rfl)) ?_
  obtain ⟨sd12z, hM⟩ := M.e_gd hM
  refine d_q rfl (fun w' H => x_ari (a := 11) (b := s_mix) (r := 11 * s_mix) rfl rfl rfl (by omega)) ?_
  refine d_q rfl (fun w' H => x_mv (v := Pz b_s) rfl) ?_
  refine d_q rfl (fun w' H => x_nc (a := ⟨b_s, 0, none⟩) rfl) ?_
  refine d_q rfl (fun w' H => x_fa (a := Pz b_s) (v := Oz b_s 1) rfl (fa_blk (o := 0) Fd158_1 Sz3)) ?_
  refine d_q rfl (fun w' H => x_ld (p := Oz b_s 1) (v := I s_used) rfl (ldb_sc Sc3 (H.blk (k := 0) rfl) rfl)) ?_
  refine d_q rfl (fun w' H => x_mv (v := Pz b_s) rfl) ?_
  refine d_q rfl (fun w' H => x_nc (a := ⟨b_s, 0, none⟩) rfl) ?_
  refine d_q rfl (fun w' H => x_fa (a := Pz b_s) (v := Pz b_s) rfl (fa_blk (o := 0) Fd158_0 Sz62)) ?_
  refine d_q rfl (fun w' H => x_ld (p := Pz b_s) (v := v_s_bytes) rfl (ldb_sc Sc62 (H.blk (k := 0) rfl) rfl)) ?_
  have hl13z := (hs_s_bytes).len_le
  refine d_q rfl (fun w' H => x_lenS T62.und rfl hs_s_bytes) ?_
  obtain ⟨sd14z, hM⟩ := M.e_gd hM
  refine d_q rfl (fun w' H => x_quo (a := s_used) (b := (s_bytes.length : Int)) rfl rfl (by omega)) ?_
  obtain ⟨sd15z, hM⟩ := M.e_gd hM
  refine d_q rfl (fun w' H => x_ari (a := 11 * s_mix) (b := s_used / (s_bytes.length : Int)) (r := (11 * s_mix) + (s_used / (s_bytes.length : Int))) rfl rfl rfl (by omega)) ?_
  obtain ⟨sd16z, hM⟩ := M.e_gd hM
  refine d_q rfl (fun w' H => x_ari (a := ((s_bytes.getD (Int.toNat (s_used % (s_bytes.length : Int))) 0).toNat : Int)) (b := (11 * s_mix) + (s_used / (s_bytes.length : Int))) (r := ((s_bytes.getD (Int.toNat (s_used % (s_bytes.length : Int))) 0).toNat : Int) + ((11 * s_mix) + (s_used / (s_bytes.length : Int)))) rfl rfl rfl (by omega)) ?_
  refine d_q rfl (fun w' H => x_as (v := I (((s_bytes.getD (Int.toNat (s_used % (s_bytes.length : Int))) 0).toNat : Int) + ((11 * s_mix) + (s_used / (s_bytes.length : Int))))) rfl) ?_
  refine d_nil ?_
  refine sQ rfl <| sM (Pz b_s) rfl <| sM (Pz b_s) rfl <| s_val (x_nc (a := ⟨b_s, 0, none⟩) rfl) <| s_val (x_fa (a := Pz b_s) (v := Oz b_s 2) rfl (fa_blk (o := 0) Fd158_2 Sz3)) <| s_val (x_ld (p := Oz b_s 2) (v := I s_mix) rfl (ldb_sc Sc3 (H.blk (k := 0) rfl) rfl)) ?_
  obtain ⟨sd17z, hM⟩ := M.e_gd hM
  refine sR 5 s_mix (5 * s_mix) rfl rfl rfl (by omega) <| sM (I (((s_bytes.getD (Int.toNat (s_used % (s_bytes.length : Int))) 0).toNat : Int) + ((11 * s_mix) + (s_used / (s_bytes.length : Int))))) rfl ?_
  obtain ⟨sd18z, hM⟩ := M.e_gd hM
  refine sR (5 * s_mix) (((s_bytes.getD (Int.toNat (s_used % (s_bytes.length : Int))) 0).toNat : Int) + ((11 * s_mix) + (s_used / (s_bytes.length : Int)))) ((5 * s_mix) + (((s_bytes.getD (Int.toNat (s_used % (s_bytes.length : Int))) 0).toNat : Int) + ((11 * s_mix) + (s_used / (s_bytes.length : Int))))) rfl rfl rfl (by omega) ?_
  obtain ⟨sd19z, hM⟩ := M.e_gd hM
  refine sR ((5 * s_mix) + (((s_bytes.getD (Int.toNat (s_used % (s_bytes.length : Int))) 0).toNat : Int) + ((11 * s_mix) + (s_used / (s_bytes.length : Int))))) 1 (((5 * s_mix) + (((s_bytes.getD (Int.toNat (s_used % (s_bytes.length : Int))) 0).toNat : Int) + ((11 * s_mix) + (s_used / (s_bytes.length : Int))))) + 1) rfl rfl rfl (by omega) ?_
  obtain ⟨sd20z, hM⟩ := M.e_gd hM
  refine s_val (x_rem' (a := ((5 * s_mix) + (((s_bytes.getD (Int.toNat (s_used % (s_bytes.length : Int))) 0).toNat : Int) + ((11 * s_mix) + (s_used / (s_bytes.length : Int))))) + 1) (b := 251) rfl rfl (by omega)) <| s_val (x_nc (a := ⟨b_s, 0, none⟩) rfl) <| s_val (x_fa (a := Pz b_s) (v := Oz b_s 2) rfl (fa_blk (o := 0) Fd158_2 Sz3)) ?_
  refine t_st (k := 0) (b := b_s) (off := 2) (cs := [v_s_bytes, I s_used, I s_mix]) (vs := [I ((((5 * s_mix) + (((s_bytes.getD (Int.toNat (s_used % (s_bytes.length : Int))) 0).toNat : Int) + ((11 * s_mix) + (s_used / (s_bytes.length : Int))))) + 1) % 251)]) (cs' := [v_s_bytes, I s_used, I ((((5 * s_mix) + (((s_bytes.getD (Int.toNat (s_used % (s_bytes.length : Int))) 0).toNat : Int) + ((11 * s_mix) + (s_used / (s_bytes.length : Int))))) + 1) % 251)]) (v := I ((((5 * s_mix) + (((s_bytes.getD (Int.toNat (s_used % (s_bytes.length : Int))) 0).toNat : Int) + ((11 * s_mix) + (s_used / (s_bytes.length : Int))))) + 1) % 251)) (L' := [cBlk b_s [v_s_bytes, I s_used, I ((((5 * s_mix) + (((s_bytes.getD (Int.toNat (s_used % (s_bytes.length : Int))) 0).toNat : Int) + ((11 * s_mix) + (s_used / (s_bytes.length : Int))))) + 1) % 251)] 158]) H rfl rfl rfl Sz3 rfl rfl rfl rfl rfl rfl ?_
  intro w21z H
  refine s_nil <| sQ rfl <| sM (Pz b_s) rfl <| s_val (x_nc (a := ⟨b_s, 0, none⟩) rfl) <| s_val (x_fa (a := Pz b_s) (v := Oz b_s 1) rfl (fa_blk (o := 0) Fd158_1 Sz3)) <| s_val (x_ld (p := Oz b_s 1) (v := I s_used) rfl (ldb_sc Sc3 (H.blk (k := 0) rfl) rfl)) ?_
  obtain ⟨sd22z, hM⟩ := M.e_gd hM
  refine sR s_used 1 (s_used + 1) rfl rfl rfl (by omega) <| s_val (x_nc (a := ⟨b_s, 0, none⟩) rfl) <| s_val (x_fa (a := Pz b_s) (v := Oz b_s 1) rfl (fa_blk (o := 0) Fd158_1 Sz3)) ?_
  refine t_st (k := 0) (b := b_s) (off := 1) (cs := [v_s_bytes, I s_used, I ((((5 * s_mix) + (((s_bytes.getD (Int.toNat (s_used % (s_bytes.length : Int))) 0).toNat : Int) + ((11 * s_mix) + (s_used / (s_bytes.length : Int))))) + 1) % 251)]) (vs := [I (s_used + 1)]) (cs' := [v_s_bytes, I (s_used + 1), I ((((5 * s_mix) + (((s_bytes.getD (Int.toNat (s_used % (s_bytes.length : Int))) 0).toNat : Int) + ((11 * s_mix) + (s_used / (s_bytes.length : Int))))) + 1) % 251)]) (v := I (s_used + 1)) (L' := [cBlk b_s [v_s_bytes, I (s_used + 1), I ((((5 * s_mix) + (((s_bytes.getD (Int.toNat (s_used % (s_bytes.length : Int))) 0).toNat : Int) + ((11 * s_mix) + (s_used / (s_bytes.length : Int))))) + 1) % 251)] 158]) H rfl rfl rfl Sz3 rfl rfl rfl rfl rfl rfl ?_
  intro w23z H
  refine s_nil <| W.seq <| sQ rfl <| sM (I n) rfl <| sC n 256 (decide (256 < n)) rfl rfl rfl <| s_nil ?_
  refine W.cond (decide (256 < n)) rfl (fun c24z => ?_) (fun c24z => ?_)
  ·replace hM := M.e_t hM c24z
   simp only [qz1, qz2, qz3, qz4, qz5, qz6, ne_eq, qz7] at c24z
   refine W.region rfl <| sM (I (((s_bytes.getD (Int.toNat (s_used % (s_bytes.length : Int))) 0).toNat : Int) + ((11 * s_mix) + (s_used / (s_bytes.length : Int))))) rfl ?_
   obtain ⟨sd25z, hM⟩ := M.e_gd hM
   refine sR 256 (((s_bytes.getD (Int.toNat (s_used % (s_bytes.length : Int))) 0).toNat : Int) + ((11 * s_mix) + (s_used / (s_bytes.length : Int)))) (256 * (((s_bytes.getD (Int.toNat (s_used % (s_bytes.length : Int))) 0).toNat : Int) + ((11 * s_mix) + (s_used / (s_bytes.length : Int))))) rfl rfl rfl (by omega) <| sM (Pz b_s) rfl <| s_val (x_nc (a := ⟨b_s, 0, none⟩) rfl) <| s_val (x_fa (a := Pz b_s) (v := Oz b_s 2) rfl (fa_blk (o := 0) Fd158_2 Sz3)) <| s_val (x_ld (p := Oz b_s 2) (v := I ((((5 * s_mix) + (((s_bytes.getD (Int.toNat (s_used % (s_bytes.length : Int))) 0).toNat : Int) + ((11 * s_mix) + (s_used / (s_bytes.length : Int))))) + 1) % 251)) rfl (ldb_sc Sc3 (H.blk (k := 0) rfl) rfl)) ?_
   obtain ⟨sd26z, hM⟩ := M.e_gd hM
   refine sR (256 * (((s_bytes.getD (Int.toNat (s_used % (s_bytes.length : Int))) 0).toNat : Int) + ((11 * s_mix) + (s_used / (s_bytes.length : Int))))) ((((5 * s_mix) + (((s_bytes.getD (Int.toNat (s_used % (s_bytes.length : Int))) 0).toNat : Int) + ((11 * s_mix) + (s_used / (s_bytes.length : Int))))) + 1) % 251) ((256 * (((s_bytes.getD (Int.toNat (s_used % (s_bytes.length : Int))) 0).toNat : Int) + ((11 * s_mix) + (s_used / (s_bytes.length : Int))))) + ((((5 * s_mix) + (((s_bytes.getD (Int.toNat (s_used % (s_bytes.length : Int))) 0).toNat : Int) + ((11 * s_mix) + (s_used / (s_bytes.length : Int))))) + 1) % 251)) rfl rfl rfl (by omega) <| sA (I ((256 * (((s_bytes.getD (Int.toNat (s_used % (s_bytes.length : Int))) 0).toNat : Int) + ((11 * s_mix) + (s_used / (s_bytes.length : Int))))) + ((((5 * s_mix) + (((s_bytes.getD (Int.toNat (s_used % (s_bytes.length : Int))) 0).toNat : Int) + ((11 * s_mix) + (s_used / (s_bytes.length : Int))))) + 1) % 251))) rfl <| s_nil <| sQ rfl <| sM (I ((256 * (((s_bytes.getD (Int.toNat (s_used % (s_bytes.length : Int))) 0).toNat : Int) + ((11 * s_mix) + (s_used / (s_bytes.length : Int))))) + ((((5 * s_mix) + (((s_bytes.getD (Int.toNat (s_used % (s_bytes.length : Int))) 0).toNat : Int) + ((11 * s_mix) + (s_used / (s_bytes.length : Int))))) + 1) % 251))) rfl <| sM (I n) rfl ?_
   obtain ⟨sd27z, hM⟩ := M.e_gd hM
   refine s_val (x_rem' (a := (256 * (((s_bytes.getD (Int.toNat (s_used % (s_bytes.length : Int))) 0).toNat : Int) + ((11 * s_mix) + (s_used / (s_bytes.length : Int))))) + ((((5 * s_mix) + (((s_bytes.getD (Int.toNat (s_used % (s_bytes.length : Int))) 0).toNat : Int) + ((11 * s_mix) + (s_used / (s_bytes.length : Int))))) + 1) % 251)) (b := n) rfl rfl (by omega)) <| sA (I (((256 * (((s_bytes.getD (Int.toNat (s_used % (s_bytes.length : Int))) 0).toNat : Int) + ((11 * s_mix) + (s_used / (s_bytes.length : Int))))) + ((((5 * s_mix) + (((s_bytes.getD (Int.toNat (s_used % (s_bytes.length : Int))) 0).toNat : Int) + ((11 * s_mix) + (s_used / (s_bytes.length : Int))))) + 1) % 251)) % n)) rfl <| s_nil ?_
   refine W.ret ?_
   have hr_ := M.e_pure hM
   exact ⟨_, resE_tmp rfl, ⟨(((256 * (((s_bytes.getD (Int.toNat (s_used % (s_bytes.length : Int))) 0).toNat : Int) + ((11 * s_mix) + (s_used / (s_bytes.length : Int))))) + ((((5 * s_mix) + (((s_bytes.getD (Int.toNat (s_used % (s_bytes.length : Int))) 0).toNat : Int) + ((11 * s_mix) + (s_used / (s_bytes.length : Int))))) + 1) % 251)) % n), (s_used + 1), ((((5 * s_mix) + (((s_bytes.getD (Int.toNat (s_used % (s_bytes.length : Int))) 0).toNat : Int) + ((11 * s_mix) + (s_used / (s_bytes.length : Int))))) + 1) % 251), hr_, rfl, H⟩⟩
  replace hM := M.e_f hM c24z
  simp only [qz1, qz2, qz3, qz4, qz5, qz6, ne_eq, qz7] at c24z
  refine W.skip <| sQ rfl <| sM (I (((s_bytes.getD (Int.toNat (s_used % (s_bytes.length : Int))) 0).toNat : Int) + ((11 * s_mix) + (s_used / (s_bytes.length : Int))))) rfl <| sM (I n) rfl ?_
  obtain ⟨sd28z, hM⟩ := M.e_gd hM
  refine s_val (x_rem' (a := ((s_bytes.getD (Int.toNat (s_used % (s_bytes.length : Int))) 0).toNat : Int) + ((11 * s_mix) + (s_used / (s_bytes.length : Int)))) (b := n) rfl rfl (by omega)) <| sA (I ((((s_bytes.getD (Int.toNat (s_used % (s_bytes.length : Int))) 0).toNat : Int) + ((11 * s_mix) + (s_used / (s_bytes.length : Int)))) % n)) rfl <| s_nil ?_
  refine W.ret ?_
  have hr_ := M.e_pure hM
  exact ⟨_, resE_tmp rfl, ⟨((((s_bytes.getD (Int.toNat (s_used % (s_bytes.length : Int))) 0).toNat : Int) + ((11 * s_mix) + (s_used / (s_bytes.length : Int)))) % n), (s_used + 1), ((((5 * s_mix) + (((s_bytes.getD (Int.toNat (s_used % (s_bytes.length : Int))) 0).toNat : Int) + ((11 * s_mix) + (s_used / (s_bytes.length : Int))))) + 1) % 251), hr_, rfl, H⟩⟩
 replace hM := M.e_f hM c10z
 simp only [qz1, qz2, qz3, qz4, qz5, qz6, ne_eq, qz7] at c10z
 refine W.skip <| sQ rfl <| sM (Pz b_s) rfl <| sM (Pz b_s) rfl <| s_val (x_nc (a := ⟨b_s, 0, none⟩) rfl) <| s_val (x_fa (a := Pz b_s) (v := Oz b_s 2) rfl (fa_blk (o := 0) Fd158_2 Sz3)) <| s_val (x_ld (p := Oz b_s 2) (v := I s_mix) rfl (ldb_sc Sc3 (H.blk (k := 0) rfl) rfl)) ?_
 obtain ⟨sd29z, hM⟩ := M.e_gd hM
 refine sR 5 s_mix (5 * s_mix) rfl rfl rfl (by omega) <| sM (I ((s_bytes.getD (Int.toNat (s_used % (s_bytes.length : Int))) 0).toNat : Int)) rfl ?_
 obtain ⟨sd30z, hM⟩ := M.e_gd hM
 refine sR (5 * s_mix) ((s_bytes.getD (Int.toNat (s_used % (s_bytes.length : Int))) 0).toNat : Int) ((5 * s_mix) + ((s_bytes.getD (Int.toNat (s_used % (s_bytes.length : Int))) 0).toNat : Int)) rfl rfl rfl (by omega) ?_
 obtain ⟨sd31z, hM⟩ := M.e_gd hM
 refine sR ((5 * s_mix) + ((s_bytes.getD (Int.toNat (s_used % (s_bytes.length : Int))) 0).toNat : Int)) 1 (((5 * s_mix) + ((s_bytes.getD (Int.toNat (s_used % (s_bytes.length : Int))) 0).toNat : Int)) + 1) rfl rfl rfl (by omega) ?_
 obtain ⟨sd32z, hM⟩ := M.e_gd hM
 refine s_val (x_rem' (a := ((5 * s_mix) + ((s_bytes.getD (Int.toNat (s_used % (s_bytes.length : Int))) 0).toNat : Int)) + 1) (b := 251) rfl rfl (by omega)) <| s_val (x_nc (a := ⟨b_s, 0, none⟩) rfl) <| s_val (x_fa (a := Pz b_s) (v := Oz b_s 2) rfl (fa_blk (o := 0) Fd158_2 Sz3)) ?_
 refine t_st (k := 0) (b := b_s) (off := 2) (cs := [v_s_bytes, I s_used, I s_mix]) (vs := [I ((((5 * s_mix) + ((s_bytes.getD (Int.toNat (s_used % (s_bytes.length : Int))) 0).toNat : Int)) + 1) % 251)]) (cs' := [v_s_bytes, I s_used, I ((((5 * s_mix) + ((s_bytes.getD (Int.toNat (s_used % (s_bytes.length : Int))) 0).toNat : Int)) + 1) % 251)]) (v := I ((((5 * s_mix) + ((s_bytes.getD (Int.toNat (s_used % (s_bytes.length : Int))) 0).toNat : Int)) + 1) % 251)) (L' := [cBlk b_s [v_s_bytes, I s_used, I ((((5 * s_mix) + ((s_bytes.getD (Int.toNat (s_used % (s_bytes.length : Int))) 0).toNat : Int)) + 1) % 251)] 158]) H rfl rfl rfl Sz3 rfl rfl rfl rfl rfl rfl ?_
 intro w33z H
 refine s_nil <| sQ rfl <| sM (Pz b_s) rfl <| s_val (x_nc (a := ⟨b_s, 0, none⟩) rfl) <| s_val (x_fa (a := Pz b_s) (v := Oz b_s 1) rfl (fa_blk (o := 0) Fd158_1 Sz3)) <| s_val (x_ld (p := Oz b_s 1) (v := I s_used) rfl (ldb_sc Sc3 (H.blk (k := 0) rfl) rfl)) ?_
 obtain ⟨sd34z, hM⟩ := M.e_gd hM
 refine sR s_used 1 (s_used + 1) rfl rfl rfl (by omega) <| s_val (x_nc (a := ⟨b_s, 0, none⟩) rfl) <| s_val (x_fa (a := Pz b_s) (v := Oz b_s 1) rfl (fa_blk (o := 0) Fd158_1 Sz3)) ?_
 refine t_st (k := 0) (b := b_s) (off := 1) (cs := [v_s_bytes, I s_used, I ((((5 * s_mix) + ((s_bytes.getD (Int.toNat (s_used % (s_bytes.length : Int))) 0).toNat : Int)) + 1) % 251)]) (vs := [I (s_used + 1)]) (cs' := [v_s_bytes, I (s_used + 1), I ((((5 * s_mix) + ((s_bytes.getD (Int.toNat (s_used % (s_bytes.length : Int))) 0).toNat : Int)) + 1) % 251)]) (v := I (s_used + 1)) (L' := [cBlk b_s [v_s_bytes, I (s_used + 1), I ((((5 * s_mix) + ((s_bytes.getD (Int.toNat (s_used % (s_bytes.length : Int))) 0).toNat : Int)) + 1) % 251)] 158]) H rfl rfl rfl Sz3 rfl rfl rfl rfl rfl rfl ?_
 intro w35z H
 refine s_nil <| W.seq <| sQ rfl <| sM (I n) rfl <| sC n 256 (decide (256 < n)) rfl rfl rfl <| s_nil ?_
 refine W.cond (decide (256 < n)) rfl (fun c36z => ?_) (fun c36z => ?_)
 ·replace hM := M.e_t hM c36z
  simp only [qz1, qz2, qz3, qz4, qz5, qz6, ne_eq, qz7] at c36z
  refine W.region rfl <| sM (I ((s_bytes.getD (Int.toNat (s_used % (s_bytes.length : Int))) 0).toNat : Int)) rfl ?_
  obtain ⟨sd37z, hM⟩ := M.e_gd hM
  refine sR 256 ((s_bytes.getD (Int.toNat (s_used % (s_bytes.length : Int))) 0).toNat : Int) (256 * ((s_bytes.getD (Int.toNat (s_used % (s_bytes.length : Int))) 0).toNat : Int)) rfl rfl rfl (by omega) <| sM (Pz b_s) rfl <| s_val (x_nc (a := ⟨b_s, 0, none⟩) rfl) <| s_val (x_fa (a := Pz b_s) (v := Oz b_s 2) rfl (fa_blk (o := 0) Fd158_2 Sz3)) <| s_val (x_ld (p := Oz b_s 2) (v := I ((((5 * s_mix) + ((s_bytes.getD (Int.toNat (s_used % (s_bytes.length : Int))) 0).toNat : Int)) + 1) % 251)) rfl (ldb_sc Sc3 (H.blk (k := 0) rfl) rfl)) ?_
  obtain ⟨sd38z, hM⟩ := M.e_gd hM
  refine sR (256 * ((s_bytes.getD (Int.toNat (s_used % (s_bytes.length : Int))) 0).toNat : Int)) ((((5 * s_mix) + ((s_bytes.getD (Int.toNat (s_used % (s_bytes.length : Int))) 0).toNat : Int)) + 1) % 251) ((256 * ((s_bytes.getD (Int.toNat (s_used % (s_bytes.length : Int))) 0).toNat : Int)) + ((((5 * s_mix) + ((s_bytes.getD (Int.toNat (s_used % (s_bytes.length : Int))) 0).toNat : Int)) + 1) % 251)) rfl rfl rfl (by omega) <| sA (I ((256 * ((s_bytes.getD (Int.toNat (s_used % (s_bytes.length : Int))) 0).toNat : Int)) + ((((5 * s_mix) + ((s_bytes.getD (Int.toNat (s_used % (s_bytes.length : Int))) 0).toNat : Int)) + 1) % 251))) rfl <| s_nil <| sQ rfl <| sM (I ((256 * ((s_bytes.getD (Int.toNat (s_used % (s_bytes.length : Int))) 0).toNat : Int)) + ((((5 * s_mix) + ((s_bytes.getD (Int.toNat (s_used % (s_bytes.length : Int))) 0).toNat : Int)) + 1) % 251))) rfl <| sM (I n) rfl ?_
  obtain ⟨sd39z, hM⟩ := M.e_gd hM
  refine s_val (x_rem' (a := (256 * ((s_bytes.getD (Int.toNat (s_used % (s_bytes.length : Int))) 0).toNat : Int)) + ((((5 * s_mix) + ((s_bytes.getD (Int.toNat (s_used % (s_bytes.length : Int))) 0).toNat : Int)) + 1) % 251)) (b := n) rfl rfl (by omega)) <| sA (I (((256 * ((s_bytes.getD (Int.toNat (s_used % (s_bytes.length : Int))) 0).toNat : Int)) + ((((5 * s_mix) + ((s_bytes.getD (Int.toNat (s_used % (s_bytes.length : Int))) 0).toNat : Int)) + 1) % 251)) % n)) rfl <| s_nil ?_
  refine W.ret ?_
  have hr_ := M.e_pure hM
  exact ⟨_, resE_tmp rfl, ⟨(((256 * ((s_bytes.getD (Int.toNat (s_used % (s_bytes.length : Int))) 0).toNat : Int)) + ((((5 * s_mix) + ((s_bytes.getD (Int.toNat (s_used % (s_bytes.length : Int))) 0).toNat : Int)) + 1) % 251)) % n), (s_used + 1), ((((5 * s_mix) + ((s_bytes.getD (Int.toNat (s_used % (s_bytes.length : Int))) 0).toNat : Int)) + 1) % 251), hr_, rfl, H⟩⟩
 replace hM := M.e_f hM c36z
 simp only [qz1, qz2, qz3, qz4, qz5, qz6, ne_eq, qz7] at c36z
 refine W.skip <| sQ rfl <| sM (I ((s_bytes.getD (Int.toNat (s_used % (s_bytes.length : Int))) 0).toNat : Int)) rfl <| sM (I n) rfl ?_
 obtain ⟨sd40z, hM⟩ := M.e_gd hM
 refine s_val (x_rem' (a := ((s_bytes.getD (Int.toNat (s_used % (s_bytes.length : Int))) 0).toNat : Int)) (b := n) rfl rfl (by omega)) <| sA (I (((s_bytes.getD (Int.toNat (s_used % (s_bytes.length : Int))) 0).toNat : Int) % n)) rfl <| s_nil ?_
 refine W.ret ?_
 have hr_ := M.e_pure hM
 exact ⟨_, resE_tmp rfl, ⟨(((s_bytes.getD (Int.toNat (s_used % (s_bytes.length : Int))) 0).toNat : Int) % n), (s_used + 1), ((((5 * s_mix) + ((s_bytes.getD (Int.toNat (s_used % (s_bytes.length : Int))) 0).toNat : Int)) + 1) % 251), hr_, rfl, H⟩⟩

def m_nilometerkit_Mixed_b0 (s_bytes : List UInt8) (n : Int) : (Int × Int × Nat × (List Int)) → M ((Int × Int × Nat × (List Int)) ⊕ ((List Int) × (List Int) × Int × Int)) := fun (s2, s3, i, l) =>
  bif decide ((i : Int) < n) then (
  M.grd (decide ((-9223372036854775808 : Int) ≤ ((i : Int) + 1)) && decide (((i : Int) + 1) ≤ (9223372036854775807 : Int))) <|
  M.bind (m_nilometerkit_Stream_Next s_bytes s2 s3 ((i : Int) + 1)) fun (r2, q1, q2) =>
  M.grd (decide ((l.length + ([(i : Int)]).length) * 8 ≤ 140737488355328)) <|
  M.grd (decide ((0 : Int) ≤ r2) && decide (r2 < ((l ++ ([(i : Int)])).length : Int))) <|
  M.grd (decide ((i : Int) < ((l ++ ([(i : Int)])).length : Int))) <|
  M.grd (decide ((0 : Int) ≤ r2) && decide (r2 < (((l ++ ([(i : Int)])).set i ((l ++ ([(i : Int)])).getD (Int.toNat r2) 0 : Int)).length : Int))) <|
  M.pure (.inl (q1, q2, i + 1, ((l ++ ([(i : Int)])).set i ((l ++ ([(i : Int)])).getD (Int.toNat r2) 0 : Int)).set (Int.toNat r2) ((l ++ ([(i : Int)])).getD i 0 : Int))))
  else (
  M.pure (.inr (l, l, s2, s3)))
def m_nilometerkit_Mixed (s_bytes : List UInt8) (s_used : Int) (s_mix : Int) (n : Int) : M ((List Int) × Int × Int) :=
  M.bind (M.iter (m_nilometerkit_Mixed_b0 s_bytes n) (s_used, s_mix, 0, [])) fun (l2, l3, s4, s5) =>
  M.pure (l3, s4, s5)
def m_nilometerkit_Stream_Within (s_bytes : List UInt8) (s_used : Int) (s_mix : Int) (lo : Int) (hi : Int) : M (Int × Int × Int) :=
  M.grd (decide ((-9223372036854775808 : Int) ≤ (hi - lo)) && decide ((hi - lo) ≤ (9223372036854775807 : Int))) <|
  M.grd (decide ((-9223372036854775808 : Int) ≤ ((hi - lo) + 1)) && decide (((hi - lo) + 1) ≤ (9223372036854775807 : Int))) <|
  M.bind (m_nilometerkit_Stream_Next s_bytes s_used s_mix ((hi - lo) + 1)) fun (r2, q1, q2) =>
  M.grd (decide ((-9223372036854775808 : Int) ≤ (lo + r2)) && decide ((lo + r2) ≤ (9223372036854775807 : Int))) <|
  M.pure ((lo + r2), q1, q2)
theorem nilometerkit_Stream_Within_ok {R : List Chunk} {b_s : Nat} {C_s_bytes : Cells} {v_s_bytes : Value} (s_bytes : List UInt8) (s_used : Int) (s_mix : Int) (lo : Int) (hi : Int) (hC_s_bytes : Reads R C_s_bytes) (hs_s_bytes : Sl C_s_bytes v_s_bytes s_bytes) {r : (Int × Int × Int)} (hM : (m_nilometerkit_Stream_Within s_bytes s_used s_mix lo hi).Ends r) (w : World) (H : St w w [cBlk b_s [v_s_bytes, I s_used, I s_mix] 158] R) : Ret Try.prog 43 #[Pz b_s, I lo, I hi] w fun v w' => ∃ (y0 : Int) (y1 : Int) (y2 : Int), (y0, y1, y2) = r ∧ v = I y0 ∧ St w w' [cBlk b_s [v_s_bytes, I y1, I y2] 158] R := by
 refine ret_of_W Try.func43 rfl rfl rfl ?_
 refine sQ rfl <| sA (I 0) rfl <| s_nil <| sQ rfl <| sM (I lo) rfl <| sM (Pz b_s) rfl <| sM (I hi) rfl <| sM (I lo) rfl ?_
 obtain ⟨sd1z, hM⟩ := M.e_gd hM
 refine sR hi lo (hi - lo) rfl rfl rfl (by omega) ?_
 obtain ⟨sd2z, hM⟩ := M.e_gd hM
 refine sR (hi - lo) 1 ((hi - lo) + 1) rfl rfl rfl (by omega) ?_
 obtain ⟨r4z, hx3z, hM⟩ := M.e_bind hM
 refine s_call cf44 [Pz b_s, I ((hi - lo) + 1)] rfl (nilometerkit_Stream_Next_ok s_bytes s_used s_mix ((hi - lo) + 1) (hC_s_bytes.app _) hs_s_bytes hx3z _ (St.give (T := []) H rfl)) ?_
 rintro vq w5z ⟨r2, q1, q2, hr6z, hvq, H2_⟩
 subst hr6z
 subst vq
 try dsimp only at hM
 replace H : St w w5z [cBlk b_s [v_s_bytes, I q1, I q2] 158] R := H.back H2_ rfl
 clear H2_
 obtain ⟨sd7z, hM⟩ := M.e_gd hM
 refine sR lo r2 (lo + r2) rfl rfl rfl (by omega) <| sA (I (lo + r2)) rfl <| s_nil ?_
 refine W.ret ?_
 have hr_ := M.e_pure hM
 exact ⟨_, resE_tmp rfl, ⟨(lo + r2), q1, q2, hr_, rfl, H⟩⟩

def m_nilometerlaw13_Made_b2 (s_bytes : List UInt8) (s8 : Nat) : (Int × Int × Int × (List Int)) → M ((Int × Int × Int × (List Int)) ⊕ (Int × Int × (List Int) × (List Int))) := fun (s2, s3, k, l) =>
  bif (((decide (0 ≤ k)) && (decide ((l.length : Int) < 5))) && (decide (2 < (s8 : Int)))) then (
  M.bind (m_nilometerkit_Stream_Next s_bytes s2 s3 3) fun (r5, q14, q24) =>
  bif r5 == 0 then (
  M.grd (decide ((l.length + ([(k : Int)]).length) * 8 ≤ 140737488355328)) <|
  M.grd (decide ((-9223372036854775808 : Int) ≤ (k - 1)) && decide ((k - 1) ≤ (9223372036854775807 : Int))) <|
  M.pure (.inl (q14, q24, k - 1, l ++ ([(k : Int)]))))
  else (
  M.grd (decide ((-9223372036854775808 : Int) ≤ (k - 1)) && decide ((k - 1) ≤ (9223372036854775807 : Int))) <|
  M.pure (.inl (q14, q24, k - 1, l))))
  else (
  M.pure (.inr (s2, s3, l, l)))
def m_nilometerlaw13_Made_b3 (s_bytes : List UInt8) (r2 : Int) : (Int × Int × Nat × (List Work)) → M ((Int × Int × Nat × (List Work)) ⊕ ((List Work) × (List Work) × Int × Int)) := fun (s6, s7, s8, l4) =>
  bif decide ((s8 : Int) < r2) then (
  M.bind (m_nilometerkit_Stream_Next s_bytes s6 s7 2000) fun (r3, q12, q22) =>
  M.bind (m_nilometerkit_Stream_Next s_bytes q12 q22 60) fun (r4, q13, q23) =>
  M.grd (decide ((-9223372036854775808 : Int) ≤ ((s8 : Int) - 1)) && decide (((s8 : Int) - 1) ≤ (9223372036854775807 : Int))) <|
  M.bind (M.iter (m_nilometerlaw13_Made_b2 s_bytes s8) (q13, q23, (s8 : Int) - 1, [])) fun (s4, s5, l2, l3) =>
  M.grd (decide ((l4.length + ([(⟨l3, (r3 : Int), (r4 : Int)⟩ : Work)]).length) * 40 ≤ 140737488355328)) <|
  M.grd (decide ((-9223372036854775808 : Int) ≤ ((s8 : Int) + 1)) && decide (((s8 : Int) + 1) ≤ (9223372036854775807 : Int))) <|
  M.pure (.inl (s4, s5, s8 + 1, l4 ++ ([(⟨l3, (r3 : Int), (r4 : Int)⟩ : Work)]))))
  else (
  M.pure (.inr (l4, l4, s6, s7)))
def m_nilometerlaw13_Made (s_bytes : List UInt8) (s_used : Int) (s_mix : Int) (most : Int) : M ((List Work) × Int × Int) :=
  M.bind (m_nilometerkit_Stream_Within s_bytes s_used s_mix 2 most) fun (r2, q1, q2) =>
  M.bind (M.iter (m_nilometerlaw13_Made_b3 s_bytes r2) (q1, q2, 0, [])) fun (l5, l6, s9, s10) =>
  M.pure (l6, s9, s10)
theorem nilometerlaw13_Made_ok {R : List Chunk} {b_s : Nat} {C_s_bytes : Cells} {v_s_bytes : Value} (s_bytes : List UInt8) (s_used : Int) (s_mix : Int) (most : Int) (hC_s_bytes : Reads R C_s_bytes) (hs_s_bytes : Sl C_s_bytes v_s_bytes s_bytes) {r : ((List Work) × Int × Int)} (hM : (m_nilometerlaw13_Made s_bytes s_used s_mix most).Ends r) (w : World) (H : St w w [cBlk b_s [v_s_bytes, I s_used, I s_mix] 158] R) : Ret Try.prog 41 #[Pz b_s, I most] w fun v w' => ∃ (y0 : List Work) (y1 : Int) (y2 : Int) (u0 : Value) (rr1 : List (Raw 2)) (Bs2 : Base), (y0, y1, y2) = r ∧ v = u0 ∧ St w w' [cOwn (α := Raw 2) 60 u0 rr1, cRo Bs2, cBlk b_s [v_s_bytes, I y1, I y2] 158] R ∧ RepR (α := Work) Bs2.cells rr1 y0 := by
 refine ret_of_W Try.func41 rfl rfl rfl ?_
 refine sQ rfl <| sA (.slice none 0 0) rfl <| s_nil <| sQ rfl <| sA (.slice none 0 0) rfl <| s_nil <| W.seq <| sQ rfl <| sM (Pz b_s) rfl ?_
 refine sM (I most) rfl ?_
 obtain ⟨r2z, hx1z, hM⟩ := M.e_bind hM
 refine s_call cf43 [Pz b_s, I 2, I most] rfl (nilometerkit_Stream_Within_ok s_bytes s_used s_mix 2 most (hC_s_bytes.app _) hs_s_bytes hx1z _ (St.give (T := []) H rfl)) ?_
 rintro vq w3z ⟨r2, q1, q2, hr4z, hvq, H2_⟩
 subst hr4z
 subst vq
 try dsimp only at hM
 replace H : St w w3z [cBlk b_s [v_s_bytes, I q1, I q2] 158] R := H.back H2_ rfl
 clear H2_
 refine sM (I 0) rfl <| s_nil <| W.block ?_
 obtain ⟨Bs_12, H⟩ := H.emptyE
 replace H : St w w3z [cOwn (α := Raw 2) 60 (.slice none 0 0) ([]), cRo Bs_12, cBlk b_s [v_s_bytes, I q1, I q2] 158] R := H.nilOwn (α := Raw 2) 60
 have hr5z : RepR (α := Work) (n := 2) Bs_12.cells [] [] := .nil
 obtain ⟨ex6z, hi7z, hk8z⟩ := M.e_bind hM
 obtain ⟨m0_, hi7z⟩ := M.e_iter hi7z
 refine W.loop (fun m σ W => ∃ (s6 : Int) (s7 : Int) (s8 : Nat) (l4 : List Work) (v_l4 : Value) (rw_l4 : List (Raw 2)) (B_l4 : Base) (ρ : Env), σ = upds ρ [(0, Pz b_s), (5, v_l4), (11, I r2), (12, I (s8 : Int))] ∧ M.iterN (m_nilometerlaw13_Made_b3 s_bytes r2) m (s6, s7, s8, l4) = some ex6z ∧ St w W [cOwn (α := Raw 2) 60 v_l4 rw_l4, cRo B_l4, cBlk b_s [v_s_bytes, I s6, I s7] 158] R ∧ RepR (α := Work) B_l4.cells rw_l4 l4) ?_ ?_
 ·exact ⟨_, q1, q2, 0, [], (.slice none 0 0), [], Bs_12, _, upds_of _ _ ⟨rfl, rfl, rfl, rfl, trivial⟩, hi7z, H, hr5z⟩
 rintro m11z σ w9z ⟨s6, s7, s8, l4, v_l4, rw_l4, B_l4, ρ, rfl, hI10z, H, hr_l4⟩
 obtain ⟨m12z, lt13z, x14z, hM, hN15z⟩ := M.e_iterN hI10z
 simp only [m_nilometerlaw13_Made_b3] at hM
 clear hI10z
 refine sQ rfl <| sC (s8 : Int) r2 (decide ((s8 : Int) < r2)) rfl rfl rfl <| s_nil <| W.seq ?_
 refine W.cond (decide ((s8 : Int) < r2)) rfl (fun c16z => ?_) (fun c16z => ?_)
 ·replace hM := M.e_t hM c16z
  simp only [qz1, qz2, qz3, qz4, qz5, qz6, ne_eq, qz7] at c16z
  refine W.skip <| W.seq <| W.block <| sQ rfl <| sM (I (s8 : Int)) rfl <| sA (I (s8 : Int)) rfl <| s_nil <| sQ rfl <| sM (Pz b_s) rfl ?_
  obtain ⟨r18z, hx17z, hM⟩ := M.e_bind hM
  refine s_call cf44 [Pz b_s, I 2000] rfl (nilometerkit_Stream_Next_ok s_bytes s6 s7 2000 (hC_s_bytes.app _) hs_s_bytes hx17z _ (St.give (L := [cBlk b_s [v_s_bytes, I s6, I s7] 158, cOwn (α := Raw 2) 60 v_l4 rw_l4, cRo B_l4]) (A := [cBlk b_s [v_s_bytes, I s6, I s7] 158]) (T := [cOwn (α := Raw 2) 60 v_l4 rw_l4, cRo B_l4]) (H.pick [2, 0, 1] (by decide) rfl) rfl)) ?_
  rintro vq w19z ⟨r3, q12, q22, hr20z, hvq, H2_⟩
  subst hr20z
  subst vq
  try dsimp only at hM
  replace H : St w w19z [cBlk b_s [v_s_bytes, I q12, I q22] 158, cOwn (α := Raw 2) 60 v_l4 rw_l4, cRo B_l4] R := H.pick [2, 0, 1] (by decide) rfl |>.back H2_ rfl
  clear H2_
  refine sM (Pz b_s) rfl ?_
  obtain ⟨r22z, hx21z, hM⟩ := M.e_bind hM
  refine s_call cf44 [Pz b_s, I 60] rfl (nilometerkit_Stream_Next_ok s_bytes q12 q22 60 (hC_s_bytes.app _) hs_s_bytes hx21z _ (St.give (T := [cOwn (α := Raw 2) 60 v_l4 rw_l4, cRo B_l4]) H rfl)) ?_
  rintro vq w23z ⟨r4, q13, q23, hr24z, hvq, H2_⟩
  subst hr24z
  subst vq
  try dsimp only at hM
  replace H : St w w23z [cBlk b_s [v_s_bytes, I q13, I q23] 158, cOwn (α := Raw 2) 60 v_l4 rw_l4, cRo B_l4] R := H.back H2_ rfl
  clear H2_
  refine s_val (x_bld (ps := [(1, I r3), (2, I r4)]) (zs := [.slice none 0 0, I 0, I 0]) (L' := [.slice none 0 0, I r3, I r4]) rfl Try.underlying60 Al60 rfl (Bd60 Try.underlying60) (.cons (cs := [I r3]) rfl rfl rfl rfl rfl <| .cons (cs := [I r4]) rfl rfl rfl rfl rfl <| .nil)) ?_
  refine t_alloc (cs := [.slice none 0 0, I 0, I 0]) H Al60 rfl ?_
  intro b_1 w25z H
  refine t_st (k := 0) (b := b_1) (off := 0) (cs := [.slice none 0 0, I 0, I 0]) (vs := [.slice none 0 0, I r3, I r4]) (cs' := [.slice none 0 0, I r3, I r4]) (v := .agg #[.slice none 0 0, I r3, I r4]) (L' := [cBlk b_1 [.slice none 0 0, I r3, I r4] 60, cBlk b_s [v_s_bytes, I q13, I q23] 158, cOwn (α := Raw 2) 60 v_l4 rw_l4, cRo B_l4]) H rfl rfl rfl Sz60 rfl rfl rfl rfl rfl rfl ?_
  intro w26z H
  refine s_nil <| W.seq <| sQ rfl <| sM (I (s8 : Int)) rfl ?_
  obtain ⟨sd27z, hM⟩ := M.e_gd hM
  refine sR (s8 : Int) 1 ((s8 : Int) - 1) rfl rfl rfl (by omega) <| sA (I ((s8 : Int) - 1)) rfl <| s_nil <| W.block ?_
  replace H : St w w26z [cOwn (α := Int) 3 (.slice none 0 0) ([]), cBlk b_1 [.slice none 0 0, I r3, I r4] 60, cBlk b_s [v_s_bytes, I q13, I q23] 158, cOwn (α := Raw 2) 60 v_l4 rw_l4, cRo B_l4] R := H.nilOwn (α := Int) 3
  obtain ⟨ex28z, hi29z, hk30z⟩ := M.e_bind hM
  obtain ⟨m0_, hi29z⟩ := M.e_iter hi29z
  refine W.loop (fun m σ W => ∃ (s2 : Int) (s3 : Int) (k : Int) (l : List Int) (v_l : Value) (ρ : Env), σ = upds ρ [(0, Pz b_s), (5, v_l4), (6, I (s8 : Int)), (7, Pz b_1), (8, I k), (11, I r2), (12, I (s8 : Int))] ∧ M.iterN (m_nilometerlaw13_Made_b2 s_bytes s8) m (s2, s3, k, l) = some ex28z ∧ St w W [cOwn (α := Int) 3 v_l l, cBlk b_1 [v_l, I r3, I r4] 60, cBlk b_s [v_s_bytes, I s2, I s3] 158, cOwn (α := Raw 2) 60 v_l4 rw_l4, cRo B_l4] R) ?_ ?_
  ·exact ⟨_, q13, q23, (s8 : Int) - 1, [], (.slice none 0 0), _, upds_of _ _ ⟨rfl, rfl, rfl, rfl, rfl, rfl, rfl, trivial⟩, hi29z, H⟩
  rintro m33z σ w31z ⟨s2, s3, k, l, v_l, ρ, rfl, hI32z, H⟩
  obtain ⟨m34z, lt35z, x36z, hM, hN37z⟩ := M.e_iterN hI32z
  simp only [m_nilometerlaw13_Made_b2] at hM
  clear hI32z
  refine W.seq <| sQ rfl <| sM (I k) rfl <| sC k 0 (decide (0 ≤ k)) rfl rfl rfl <| sM (B (decide (0 ≤ k))) rfl <| g_val (decide (0 ≤ k)) (gy_t rfl) (fun hg => x_fa (a := Pz b_1) (v := Pz b_1) rfl (fa_blk (o := 0) Fd60_0 Sz34)) <| g_val (decide (0 ≤ k)) (gy_t rfl) (fun hg => x_ld (p := Pz b_1) (v := v_l) (gd_of (c := decide (0 ≤ k)) hg (Pz b_1)) (ldb_sc Sc34 (H.blk (k := 1) rfl) rfl)) <| g_val (decide (0 ≤ k)) (gy_t rfl) (fun hg => x_lenS T34.und (gd_of (c := decide (0 ≤ k)) hg (v_l)) (ownSl (H.get (k := 0) rfl))) <| g_val (decide (0 ≤ k)) (gy_t rfl) (fun hg => x_cmp (kd := .i64) (a := (l.length : Int)) (b := 5) (r := decide ((l.length : Int) < 5)) (gd_of (c := decide (0 ≤ k)) hg (I (l.length : Int))) rfl rfl) <| s_val (x_pand (b := decide (0 ≤ k)) (r := decide ((l.length : Int) < 5)) rfl (fun hb => gd_of (c := decide (0 ≤ k)) (by first | exact hb | (rw [hb]; rfl) | simp_all) (B (decide ((l.length : Int) < 5)))) rfl) <| sM (B ((decide (0 ≤ k)) && (decide ((l.length : Int) < 5)))) rfl ?_
  refine g_val ((decide (0 ≤ k)) && (decide ((l.length : Int) < 5))) (gy_t rfl) (fun hg => x_mv (v := I (s8 : Int)) rfl) <| g_val ((decide (0 ≤ k)) && (decide ((l.length : Int) < 5))) (gy_t rfl) (fun hg => x_cmp (kd := .i64) (a := (s8 : Int)) (b := 2) (r := decide (2 < (s8 : Int))) (gd_of (c := ((decide (0 ≤ k)) && (decide ((l.length : Int) < 5)))) hg (I (s8 : Int))) rfl rfl) <| s_val (x_pand (b := ((decide (0 ≤ k)) && (decide ((l.length : Int) < 5)))) (r := decide (2 < (s8 : Int))) rfl (fun hb => gd_of (c := ((decide (0 ≤ k)) && (decide ((l.length : Int) < 5)))) (by first | exact hb | (rw [hb]; rfl) | simp_all) (B (decide (2 < (s8 : Int))))) rfl) <| s_nil ?_
  refine W.cond (((decide (0 ≤ k)) && (decide ((l.length : Int) < 5))) && (decide (2 < (s8 : Int)))) rfl (fun c39z => ?_) (fun c39z => ?_)
  ·replace hM := M.e_t hM c39z
   refine W.skip <| W.seq <| W.block <| sQ rfl <| sM (Pz b_s) rfl ?_
   obtain ⟨r41z, hx40z, hM⟩ := M.e_bind hM
   refine s_call cf44 [Pz b_s, I 3] rfl (nilometerkit_Stream_Next_ok s_bytes s2 s3 3 (hC_s_bytes.app _) hs_s_bytes hx40z _ (St.give (L := [cBlk b_s [v_s_bytes, I s2, I s3] 158, cOwn (α := Int) 3 v_l l, cBlk b_1 [v_l, I r3, I r4] 60, cOwn (α := Raw 2) 60 v_l4 rw_l4, cRo B_l4]) (A := [cBlk b_s [v_s_bytes, I s2, I s3] 158]) (T := [cOwn (α := Int) 3 v_l l, cBlk b_1 [v_l, I r3, I r4] 60, cOwn (α := Raw 2) 60 v_l4 rw_l4, cRo B_l4]) (H.pick [2, 0, 1, 3, 4] (by decide) rfl) rfl)) ?_
   rintro vq w42z ⟨r5, q14, q24, hr43z, hvq, H2_⟩
   subst hr43z
   subst vq
   try dsimp only at hM
   replace H : St w w42z [cBlk b_s [v_s_bytes, I q14, I q24] 158, cOwn (α := Int) 3 v_l l, cBlk b_1 [v_l, I r3, I r4] 60, cOwn (α := Raw 2) 60 v_l4 rw_l4, cRo B_l4] R := H.pick [2, 0, 1, 3, 4] (by decide) rfl |>.back H2_ rfl
   clear H2_
   refine sC r5 0 (r5 == 0) rfl rfl rfl <| s_nil ?_
   refine W.cond (r5 == 0) rfl (fun c44z => ?_) (fun c44z => ?_)
   ·replace hM := M.e_t hM c44z
    simp only [qz1, qz2, qz3, qz4, qz5, qz6, ne_eq, qz7] at c44z
    refine W.region rfl <| s_val (x_fa (a := Pz b_1) (v := Pz b_1) rfl (fa_blk (o := 0) Fd60_0 Sz34)) <| s_val (x_ld (p := Pz b_1) (v := v_l) rfl (ldb_sc Sc34 (H.blk (k := 2) rfl) rfl)) <| sM (I k) rfl ?_
    refine t_bs (α := Int) T34 [I k] [(k : Int)] H rfl (.cons rfl (Flat.rep_enc _ (k : Int)) <| .nil) rfl rfl rfl ?_
    intro v45z w46z H
    obtain ⟨sd47z, hM⟩ := M.e_gd hM
    refine t_app (α := Int) (k := 2) (l := l) (l2 := [(k : Int)]) (l' := l ++ ([(k : Int)])) (vy := v45z) T34 rfl H rfl rfl rfl (ownSl (H.get (k := 0) rfl)) (ownLe _ (H.get (k := 0) rfl)) (rfl) (by first | omega | (simp only [List.length_nil] at *; omega)) ?_
    intro v48z w49z H
    replace H : St w w49z [cOwn (α := Int) 3 v45z ([(k : Int)]), cBlk b_s [v_s_bytes, I q14, I q24] 158, cOwn (α := Int) 3 v48z (l ++ ([(k : Int)])), cBlk b_1 [v_l, I r3, I r4] 60, cOwn (α := Raw 2) 60 v_l4 rw_l4, cRo B_l4] R := H
    refine s_val (x_fa (a := Pz b_1) (v := Pz b_1) rfl (fa_blk (o := 0) Fd60_0 Sz34)) ?_
    refine t_st (k := 3) (b := b_1) (off := 0) (cs := [v_l, I r3, I r4]) (vs := [v48z]) (cs' := [v48z, I r3, I r4]) (v := v48z) (L' := [cOwn (α := Int) 3 v45z ([(k : Int)]), cBlk b_s [v_s_bytes, I q14, I q24] 158, cOwn (α := Int) 3 v48z (l ++ ([(k : Int)])), cBlk b_1 [v48z, I r3, I r4] 60, cOwn (α := Raw 2) 60 v_l4 rw_l4, cRo B_l4]) H rfl rfl rfl Sz34 (Sl.cells (ownSl (H.get (k := 2) rfl))) rfl rfl (by simp only [List.all_cons, List.all_nil, Bool.true_and, Bool.and_true, Sl.oc (ownSl (H.get (k := 2) rfl))]; try rfl) rfl rfl ?_
    intro w50z H
    refine s_nil <| W.region rfl <| sM (I k) rfl ?_
    obtain ⟨sd51z, hM⟩ := M.e_gd hM
    refine sR k 1 (k - 1) rfl rfl rfl (by omega) <| sA (I (k - 1)) rfl <| s_nil ?_
    exact ⟨m34z, lt35z, q14, q24, k - 1, l ++ ([(k : Int)]), v48z, _, upds_of _ _ ⟨rfl, rfl, rfl, rfl, rfl, rfl, rfl, trivial⟩, M.e_inl hM hN37z, (H.pick [2, 3, 1, 4, 5] (by decide) rfl)⟩
   replace hM := M.e_f hM c44z
   simp only [qz1, qz2, qz3, qz4, qz5, qz6, ne_eq, qz7] at c44z
   refine W.skip <| W.region rfl <| sM (I k) rfl ?_
   obtain ⟨sd52z, hM⟩ := M.e_gd hM
   refine sR k 1 (k - 1) rfl rfl rfl (by omega) <| sA (I (k - 1)) rfl <| s_nil ?_
   exact ⟨m34z, lt35z, q14, q24, k - 1, l, v_l, _, upds_of _ _ ⟨rfl, rfl, rfl, rfl, rfl, rfl, rfl, trivial⟩, M.e_inl hM hN37z, (H.pick [1, 2, 0, 3, 4] (by decide) rfl)⟩
  replace hM := M.e_f hM c39z
  refine W.exit ?_
  have hX53z := M.e_inr hM hN37z
  subst hX53z
  replace hM := hk30z
  try dsimp only at hM
  refine W.region rfl <| sM v_l4 rfl <| s_val (x_ld (p := Pz b_1) (v := .agg #[v_l, I r3, I r4]) rfl (ldb_ag (ds := [v_l, I r3, I r4]) Ag60 Sz60 (H.blk (k := 1) rfl) rfl rfl)) ?_
  obtain ⟨Bs_5, H⟩ := H.emptyE
  obtain ⟨Bs_6, H, hs55z⟩ := H.freezeE (k := 1) rfl
  replace H : St w w31z [cRo Bs_5, cRo Bs_6, cBlk b_1 [v_l, I r3, I r4] 60, cBlk b_s [v_s_bytes, I s2, I s3] 158, cOwn (α := Raw 2) 60 v_l4 rw_l4, cRo B_l4] R := H
  have hq54z := hs55z
  obtain ⟨Bs_7, H, le56z, le57z⟩ := H.joinE (i := 0) (j := 1) rfl rfl
  replace hq54z := hq54z.mono le57z
  obtain ⟨rw58z, hrw_rw58z⟩ : ∃ r : Raw 2, r.cs = [v_l, I r3, I r4] := ⟨Raw.of [v_l, I r3, I r4] rfl (by simp only [List.all_cons, List.all_nil, Bool.true_and, Bool.and_true, Sl.oc hq54z]; try rfl), rfl⟩
  have hr59z : RepR (α := Work) Bs_7.cells [rw58z] [(⟨l, (r3 : Int), (r4 : Int)⟩ : Work)] := .cons (by rw [hrw_rw58z]; exact ⟨_, rfl, hq54z⟩) <| .nil
  refine t_bs (α := Raw 2) T22 [.agg #[v_l, I r3, I r4]] [rw58z] H rfl (.cons (by rw [show (Flat.enc rw58z : List Value) = rw58z.cs from rfl, hrw_rw58z]; rfl) (Flat.rep_enc _ _) <| .nil) rfl rfl rfl ?_
  intro v60z w61z H
  replace H : St w w61z [cOwn (α := Raw 2) 60 v60z ([rw58z]), cRo Bs_7, cRo Bs_5, cRo Bs_6, cBlk b_1 [v_l, I r3, I r4] 60, cBlk b_s [v_s_bytes, I s2, I s3] 158, cOwn (α := Raw 2) 60 v_l4 rw_l4, cRo B_l4] R := H
  obtain ⟨sd62z, hM⟩ := M.e_gd hM
  have hr63z := hr59z
  obtain ⟨Bs_11, H, le64z, le65z⟩ := H.joinE (i := 7) (j := 1) rfl rfl
  replace hr_l4 := hr_l4.mono le64z
  replace hr63z := hr63z.mono le65z
  have hr68z := hr_l4.app hr63z
  refine t_app (α := Raw 2) (k := 7) (l := rw_l4) (l2 := [rw58z]) (l' := rw_l4 ++ ([rw58z])) (vy := v60z) T22 rfl H rfl rfl rfl (ownSl (H.get (k := 1) rfl)) (ownLe _ (H.get (k := 1) rfl)) (rfl) (by have a_ := hr_l4.len; have b_ := hr63z.len; simp only [List.length_nil] at *; first | omega | (rw [a_, b_]; omega)) ?_
  intro v66z w67z H
  replace H : St w w67z [cRo Bs_11, cOwn (α := Raw 2) 60 v60z ([rw58z]), cRo Bs_7, cRo Bs_5, cRo Bs_6, cBlk b_1 [v_l, I r3, I r4] 60, cBlk b_s [v_s_bytes, I s2, I s3] 158, cOwn (α := Raw 2) 60 v66z (rw_l4 ++ ([rw58z])), cRo B_l4] R := H
  refine sA v66z rfl <| s_nil <| W.region rfl ?_
  obtain ⟨sd69z, hM⟩ := M.e_gd hM
  refine sR (s8 : Int) 1 ((s8 : Int) + 1) rfl rfl rfl (by omega) <| sM (I ((s8 : Int) + 1)) rfl <| s_nil ?_
  exact ⟨m12z, lt13z, s2, s3, s8 + 1, l4 ++ ([(⟨l, (r3 : Int), (r4 : Int)⟩ : Work)]), v66z, rw_l4 ++ ([rw58z]), Bs_11, _, upds_of _ _ ⟨rfl, rfl, rfl, rfl, trivial⟩, M.e_inl hM hN15z, (H.pick [7, 0, 6] (by decide) rfl), hr68z⟩
 replace hM := M.e_f hM c16z
 simp only [qz1, qz2, qz3, qz4, qz5, qz6, ne_eq, qz7] at c16z
 refine W.exit ?_
 have hX70z := M.e_inr hM hN15z
 subst hX70z
 replace hM := hk8z
 try dsimp only at hM
 refine sQ rfl <| sM v_l4 rfl <| sA v_l4 rfl <| s_nil ?_
 refine W.ret ?_
 have hr_ := M.e_pure hM
 exact ⟨_, resE_tmp rfl, ⟨l4, s6, s7, v_l4, rw_l4, B_l4, hr_, rfl, H, hr_l4⟩⟩

def m_nilometerlaw13_Noted_b2 (s_bytes : List UInt8) (s7 : Nat) (r2 : Int) : (Int × Int × Nat × (List Note)) → M ((Int × Int × Nat × (List Note)) ⊕ (Int × Int × (List Note) × (List Note))) := fun (s2, s3, s4, l4) =>
  bif decide ((s4 : Int) < r2) then (
  M.bind (m_nilometerkit_Stream_Next s_bytes s2 s3 3) fun (r4, q13, q23) =>
  bif r4 == 0 then (
  M.bind (m_nilometerkit_Stream_Next s_bytes q13 q23 2000) fun (r5, q14, q24) =>
  M.grd (decide ((l4.length + ([(⟨(s7 : Int), (s4 : Int), (r5 : Int)⟩ : Note)]).length) * 24 ≤ 140737488355328)) <|
  M.grd (decide ((-9223372036854775808 : Int) ≤ ((s4 : Int) + 1)) && decide (((s4 : Int) + 1) ≤ (9223372036854775807 : Int))) <|
  M.pure (.inl (q14, q24, s4 + 1, l4 ++ ([(⟨(s7 : Int), (s4 : Int), (r5 : Int)⟩ : Note)]))))
  else (
  M.grd (decide ((-9223372036854775808 : Int) ≤ ((s4 : Int) + 1)) && decide (((s4 : Int) + 1) ≤ (9223372036854775807 : Int))) <|
  M.pure (.inl (q13, q23, s4 + 1, l4))))
  else (
  M.pure (.inr (s2, s3, l4, l4)))
def m_nilometerlaw13_Noted_b3 (s_bytes : List UInt8) (w_ : List Work) : (Nat × Int × Int × (List Note) × (List Note)) → M ((Nat × Int × Int × (List Note) × (List Note)) ⊕ ((List Note) × (List Note) × (List Note) × (List Note) × Int × Int)) := fun (s7, s8, s9, l6, l7) =>
  bif decide ((s7 : Int) < (w_.length : Int)) then (
  M.grd (decide ((s7 : Int) < (w_.length : Int))) <|
  bif decide (0 < (((w_.getD s7 default).of).length : Int)) then (
  M.pure (.inl (s7 + 1, s8, s9, l6, l7)))
  else (
  M.bind (m_nilometerkit_Stream_Next s_bytes s8 s9 9) fun (r2, q1, q2) =>
  M.bind (m_nilometerkit_Stream_Next s_bytes q1 q2 2000) fun (r3, q12, q22) =>
  M.grd (decide ((l6.length + ([(⟨(s7 : Int), (r2 : Int), (r3 : Int)⟩ : Note)]).length) * 24 ≤ 140737488355328)) <|
  M.bind (M.iter (m_nilometerlaw13_Noted_b2 s_bytes s7 r2) (q12, q22, 0, l7)) fun (s5, s6, l2, l5) =>
  M.pure (.inl (s7 + 1, s5, s6, l6 ++ ([(⟨(s7 : Int), (r2 : Int), (r3 : Int)⟩ : Note)]), l5))))
  else (
  M.pure (.inr (l6, l7, l7, l6, s8, s9)))
def m_nilometerlaw13_Noted (s_bytes : List UInt8) (s_used : Int) (s_mix : Int) (w_ : List Work) : M ((List Note) × Int × Int) :=
  M.bind (M.iter (m_nilometerlaw13_Noted_b3 s_bytes w_) (0, s_used, s_mix, [], [])) fun (l8, l9, l10, l11, s10, s11) =>
  M.grd (decide ((l11.length + l10.length) * 24 ≤ 140737488355328)) <|
  M.pure ((l11 ++ l10), s10, s11)
end Go.Proofs.Ytndobgodeicloaa
end
namespace Go.Nm
structure SOk (c u x : Int) : Prop where
  u0 : 0 ≤ u
  u1 : u ≤ c
  x0 : 0 ≤ x
  x1 : x < 251
theorem SOk.mono {c d u x : Int} (h : SOk c u x) (hd : c ≤ d) : SOk d u x := ⟨h.u0, Int.le_trans h.u1 hd, h.x0, h.x1⟩
/-- What a stream gives: a number below n. -/
structure Nx (c n : Int) (y : Int × Int × Int) : Prop where
  ok : SOk c y.2.1 y.2.2
  lt : 1 ≤ n → 0 ≤ y.1 ∧ y.1 < n
  no : n < 1 → y.1 = 0
end Go.Nm
namespace Go.Proofs.Ytndobgodeicloaa
open Go Go.Nm
theorem next_out {b : List UInt8} {c u x n : Int} (h : SOk c u x) (hc : c ≤ 1000000000000) (hn : n ≤ 1000000) : (m_nilometerkit_Stream_Next b u x n).Out (Nx (c + 1) n) := by
  obtain ⟨u0, u1, x0, x1⟩ := h
  unfold m_nilometerkit_Stream_Next
  refine M.o_if (fun hb => ?_) (fun hb => ?_)
  · simp only [Bool.or_eq_true, decide_eq_true_eq, beq_iff_eq] at hb
    refine M.o_pure ⟨⟨u0, by dsimp only; omega, x0, x1⟩, fun h1 => ⟨Int.le_refl _, ?_⟩, fun _ => rfl⟩
    dsimp only
    omega
  · simp only [Bool.or_eq_false_iff, decide_eq_false_iff_not, beq_eq_false_iff_ne, ne_eq] at hb
    have hl : (0 : Int) < (b.length : Int) := by omega
    have m0 := Int.emod_nonneg u (show (b.length : Int) ≠ 0 by omega)
    have m1 := Int.emod_lt_of_pos u hl
    have d0 := Int.ediv_nonneg u0 (show (0 : Int) ≤ (b.length : Int) by omega)
    have d1 : u / (b.length : Int) ≤ u := Int.ediv_le_self _ u0
    have y1 : ((b.getD (Int.toNat (u % (b.length : Int))) 0).toNat : Int) < 256 := by
      have := UInt8.toNat_lt (b.getD (Int.toNat (u % (b.length : Int))) 0)
      omega
    have y0 : (0 : Int) ≤ ((b.getD (Int.toNat (u % (b.length : Int))) 0).toNat : Int) := Int.natCast_nonneg _
    generalize ((b.getD (Int.toNat (u % (b.length : Int))) 0).toNat : Int) = y at *
    generalize u % (b.length : Int) = m at *
    generalize u / (b.length : Int) = d at *
    have hn0 : 0 < n := by omega
    have fin : ∀ z : Int, 0 ≤ z → 0 ≤ z % n ∧ z % n < n := fun z hz => ⟨Int.emod_nonneg _ (by omega), Int.emod_lt_of_pos _ hn0⟩
    have pr : ∀ z w : Int, 0 ≤ z → Nx (c + 1) n (z % n, u + 1, w % 251) := fun z w hz => ⟨⟨by dsimp only; omega, by dsimp only; omega, by dsimp only; omega, by dsimp only; omega⟩, fun _ => fin z hz, fun h => by omega⟩
    refine M.o_grd (by simp only [Bool.and_eq_true, decide_eq_true_eq]; omega) (M.o_grd (by simp only [Bool.and_eq_true, decide_eq_true_eq]; omega) (M.o_grd (by simp only [Bool.and_eq_true, decide_eq_true_eq]; omega) ?_))
    refine M.o_if (fun h1 => ?_) (fun h1 => ?_)
    · refine M.o_grd (by simp only [Bool.and_eq_true, decide_eq_true_eq]; omega) (M.o_grd (by simp only [Bool.and_eq_true, decide_eq_true_eq]; omega) (M.o_grd (by simp only [Bool.and_eq_true, decide_eq_true_eq]; omega) (M.o_grd (by simp only [Bool.and_eq_true, decide_eq_true_eq]; omega) (M.o_grd (by simp only [Bool.and_eq_true, decide_eq_true_eq]; omega) ?_))))
      refine M.o_grd (by simp only [Bool.and_eq_true, decide_eq_true_eq]; omega) (M.o_grd (by simp only [Bool.and_eq_true, decide_eq_true_eq]; omega) (M.o_grd (by simp only [Bool.and_eq_true, decide_eq_true_eq]; omega) (M.o_grd (by simp only [Bool.and_eq_true, decide_eq_true_eq]; omega) ?_)))
      refine M.o_if (fun h2 => ?_) (fun h2 => ?_)
      · refine M.o_grd (by simp only [Bool.and_eq_true, decide_eq_true_eq]; omega) (M.o_grd (by simp only [Bool.and_eq_true, decide_eq_true_eq]; omega) (M.o_grd (by simp only [Bool.and_eq_true, decide_eq_true_eq]; omega) (M.o_pure (pr _ _ (by omega)))))
      · refine M.o_grd (by simp only [Bool.and_eq_true, decide_eq_true_eq]; omega) (M.o_pure (pr _ _ (by omega)))
    · refine M.o_grd (by simp only [Bool.and_eq_true, decide_eq_true_eq]; omega) (M.o_grd (by simp only [Bool.and_eq_true, decide_eq_true_eq]; omega) (M.o_grd (by simp only [Bool.and_eq_true, decide_eq_true_eq]; omega) (M.o_grd (by simp only [Bool.and_eq_true, decide_eq_true_eq]; omega) (M.o_grd (by simp only [Bool.and_eq_true, decide_eq_true_eq]; omega) ?_))))
      refine M.o_if (fun h2 => ?_) (fun h2 => ?_)
      · refine M.o_grd (by simp only [Bool.and_eq_true, decide_eq_true_eq]; omega) (M.o_grd (by simp only [Bool.and_eq_true, decide_eq_true_eq]; omega) (M.o_grd (by simp only [Bool.and_eq_true, decide_eq_true_eq]; omega) (M.o_pure (pr _ _ (by omega)))))
      · refine M.o_grd (by simp only [Bool.and_eq_true, decide_eq_true_eq]; omega) (M.o_pure (pr _ _ (by omega)))
theorem within_out {b : List UInt8} {c u x lo hi : Int} (h : SOk c u x) (hc : c ≤ 1000000000000) (h0 : -1000 ≤ lo) (h1 : lo ≤ hi) (h2 : hi ≤ 10000) : (m_nilometerkit_Stream_Within b u x lo hi).Out (fun y => SOk (c + 1) y.2.1 y.2.2 ∧ lo ≤ y.1 ∧ y.1 ≤ hi) := by
  unfold m_nilometerkit_Stream_Within
  refine M.o_grd (gA2 (by omega) (by omega)) (M.o_grd (gA2 (by omega) (by omega)) (M.o_bind (next_out h hc (by omega)) ?_))
  rintro ⟨r, u', x'⟩ ⟨k, hl, _⟩
  have := hl (by omega)
  dsimp only at this k ⊢
  exact M.o_grd (gA2 (by omega) (by omega)) (M.o_pure ⟨k, by dsimp only; omega, by dsimp only; omega⟩)
/-! ### Works -/
structure OfOk (i : Nat) (l : List Int) : Prop where
  few : l.length ≤ 5
  ahead : ∀ k ∈ l, 0 ≤ k ∧ k < (i : Int)
  once : l.Nodup
  early : i ≤ 2 → l = []
theorem made_of {b : List UInt8} {c u x : Int} (h : SOk c u x) (hc : c ≤ 1000000000) {i : Nat} (hi : i ≤ 1000) :
    (M.iter (m_nilometerlaw13_Made_b2 b i) (u, x, (i : Int) - 1, [])).Out (fun y => SOk (c + i) y.1 y.2.1 ∧ OfOk i y.2.2.2) := by
  refine M.o_iter (fun (m : Nat) (s : Int × Int × Int × List Int) => m = (s.2.2.1 + 1).toNat ∧ -1 ≤ s.2.2.1 ∧ s.2.2.1 < i ∧ SOk (c + (i : Int) - (s.2.2.1 + 1)) s.1 s.2.1 ∧ s.2.2.2.length ≤ 5 ∧ (∀ k ∈ s.2.2.2, s.2.2.1 < k ∧ k < (i : Int)) ∧ s.2.2.2.Nodup ∧ (i ≤ 2 → s.2.2.2 = [])) ?_ _ (u, x, (i : Int) - 1, []) ⟨rfl, by dsimp only; omega, by dsimp only; omega, h.mono (by dsimp only; omega), by simp, by simp, by simp, fun _ => rfl⟩
  rintro m ⟨u, x, k, l⟩ ⟨rfl, k0, k1, hs, h5, hk, hn, he⟩
  dsimp only at k0 k1 hs h5 hk hn he ⊢
  simp only [m_nilometerlaw13_Made_b2]
  refine M.o_if (fun hb => ?_) (fun hb => ?_)
  · simp only [Bool.and_eq_true, decide_eq_true_eq] at hb
    refine M.o_bind (next_out hs (by omega) (by omega)) ?_
    rintro ⟨r, u', x'⟩ ⟨ok, _, _⟩
    dsimp only at ok ⊢
    refine M.o_if (fun hr => ?_) (fun hr => ?_)
    · refine M.o_grdD (by simp only [List.length_cons, List.length_nil]; omega) (M.o_grd (gA2 (by omega) (by omega)) (M.o_pure ⟨k.toNat, by omega, ?_⟩))
      refine ⟨by dsimp only; omega, by dsimp only; omega, by dsimp only; omega, ok.mono (by dsimp only; omega), ?_, ?_, ?_, ?_⟩
      · simp only [List.length_append, List.length_cons, List.length_nil]; omega
      · intro y hy
        simp only [List.mem_append, List.mem_cons, List.not_mem_nil, or_false] at hy
        rcases hy with hy | hy
        · have := hk y hy; dsimp only; omega
        · subst hy; dsimp only; omega
      · dsimp only
        rw [List.nodup_append]
        refine ⟨hn, by simp, fun a ha b hb e => ?_⟩
        simp only [List.mem_cons, List.not_mem_nil, or_false] at hb
        have := hk a ha
        omega
      · intro h2; omega
    · refine M.o_grd (gA2 (by omega) (by omega)) (M.o_pure ⟨k.toNat, by omega, ?_⟩)
      exact ⟨by dsimp only; omega, by dsimp only; omega, by dsimp only; omega, ok.mono (by dsimp only; omega), h5, fun y hy => by have := hk y hy; dsimp only; omega, hn, he⟩
  · refine M.o_pure ⟨hs.mono (by omega), h5, fun y hy => ?_, hn, he⟩
    have := hk y hy
    omega
/-- What works of numbers are like. -/
structure MadeW (most : Int) (ws : List Work) : Prop where
  built : Built ws
  two : 2 ≤ ws.length
  most : (ws.length : Int) ≤ most
  small : ∀ i, i < ws.length → (ws.getD i default).base < 2000 ∧ (ws.getD i default).minutes < 60
  src : ∀ i, i < ws.length → i ≤ 2 → (ws.getD i default).of = []
theorem made_out {b : List UInt8} {c u x most : Int} (h : SOk c u x) (hc : c ≤ 100000000) (h2 : 2 ≤ most) (h30 : most ≤ 30) : (m_nilometerlaw13_Made b u x most).Out (fun y => MadeW most y.1 ∧ SOk (c + 2000) y.2.1 y.2.2) := by
  unfold m_nilometerlaw13_Made
  refine M.o_bind (within_out h (by omega) (by omega) h2 (by omega)) ?_
  rintro ⟨r, u1, x1⟩ ⟨hs, r0, r1⟩
  dsimp only at hs r0 r1 ⊢
  refine M.o_bind (P := fun y => MadeW most y.2.1 ∧ SOk (c + 2000) y.2.2.1 y.2.2.2) ?_ (fun y hy => M.o_pure hy)
  refine M.o_for r.toNat (fun i s => s.2.2.1 = i ∧ SOk (c + 1 + 40 * i) s.1 s.2.1 ∧ s.2.2.2.length = i ∧ (∀ j, j < i → BuiltAt j (s.2.2.2.getD j default) ∧ (s.2.2.2.getD j default).base < 2000 ∧ (s.2.2.2.getD j default).minutes < 60 ∧ (j ≤ 2 → (s.2.2.2.getD j default).of = []))) ?_ ?_ (s := (u1, x1, 0, [])) ⟨rfl, hs.mono (by omega), rfl, fun j hj => by omega⟩
  · rintro i ⟨u, x, j, l⟩ hi ⟨rfl, ok, hl, hj⟩
    dsimp only at hi ok hl hj ⊢
    simp only [m_nilometerlaw13_Made_b3]
    refine M.o_t (by simp; omega) (M.o_bind (next_out ok (by omega) (by omega)) ?_)
    rintro ⟨r3, u3, x3⟩ ⟨ok3, l3, _⟩
    dsimp only at ok3 l3 ⊢
    have l3 := l3 (by omega)
    refine M.o_bind (next_out ok3 (by omega) (by omega)) ?_
    rintro ⟨r4, u4, x4⟩ ⟨ok4, l4, _⟩
    dsimp only at ok4 l4 ⊢
    have l4 := l4 (by omega)
    refine M.o_grd (gA2 (by omega) (by omega)) (M.o_bind (made_of ok4 (by omega) (i := j) (by omega)) ?_)
    rintro ⟨u5, x5, la, lo⟩ ⟨ok5, hof⟩
    dsimp only at ok5 hof ⊢
    refine M.o_grdD (by simp only [List.length_cons, List.length_nil]; omega) (M.o_grd (gA2 (by omega) (by omega)) (M.o_pure ?_))
    refine ⟨rfl, ok5.mono (by omega), by simp [hl], fun k hk => ?_⟩
    dsimp only
    by_cases e : k < l.length
    · rw [getD_app_left _ _ e]
      exact hj k (by omega)
    · obtain rfl : k = l.length := by omega
      rw [getD_app_mid]
      refine ⟨⟨hof.few, ⟨l3.1, by dsimp only; omega⟩, ⟨l4.1, by dsimp only; omega⟩, ?_, hof.once⟩, l3.2, l4.2, ?_⟩
      · rw [hl]; exact hof.ahead
      · rw [hl]; exact hof.early
  · rintro ⟨u, x, j, l⟩ ⟨rfl, ok, hl, hj⟩
    dsimp only at ok hl hj ⊢
    simp only [m_nilometerlaw13_Made_b3]
    refine M.o_f (by simp; omega) (M.o_pure ⟨⟨⟨by dsimp only; omega, fun i hi => (hj i (Nat.lt_of_lt_of_eq hi hl)).1⟩, by dsimp only; omega, by dsimp only; omega, fun i hi => ⟨(hj i (Nat.lt_of_lt_of_eq hi hl)).2.1, (hj i (Nat.lt_of_lt_of_eq hi hl)).2.2.1⟩, fun i hi => (hj i (Nat.lt_of_lt_of_eq hi hl)).2.2.2⟩, ok.mono (by omega)⟩)
end Go.Proofs.Ytndobgodeicloaa
namespace Go.Nm
/-- What a note says, or none. -/
def nv (o : Option Note) : Int := match o with | some n => n.value | none => -1
def nq (o : Option Note) : Int := match o with | some n => n.version | none => -1
end Go.Nm
namespace Go.Nm
end Go.Nm
namespace Go.Nm
variable {ws : List Work} {l e : List Note}
/-! ### Notes -/
def Uniq (l : List Note) : Prop := ∀ a ∈ l, ∀ b ∈ l, a.work = b.work → a.version = b.version → a = b
theorem Uniq.add {l l' : List Note} {n : Note} (h : Uniq l) (hm : ∀ a ∈ l', a ∈ l ∨ a = n) (hn : ∀ a ∈ l, ¬ (a.work = n.work ∧ a.version = n.version)) : Uniq l' := by
  intro a ha b hb h1 h2
  rcases hm a ha with ha | rfl <;> rcases hm b hb with hb | rfl
  · exact h a ha b hb h1 h2
  · exact absurd ⟨h1, h2⟩ (hn a ha)
  · exact absurd ⟨h1.symm, h2.symm⟩ (hn b hb)
  · rfl
structure NG (ws : List Work) (l : List Note) : Prop where
  few : l.length ≤ 200
  src : ∀ n ∈ l, 0 ≤ n.work ∧ n.work < (ws.length : Int) ∧ (ws.getD n.work.toNat default).of = []
  rng : ∀ n ∈ l, 0 ≤ n.version ∧ n.version ≤ 1000000 ∧ 0 ≤ n.value ∧ n.value ≤ 1000002
  uniq : Uniq l
/-! ### Values -/
/-- Each source has a note. -/
def Full (ws : List Work) (l : List Note) : Prop := ∀ i, i < ws.length → (ws.getD i default).of = [] → ∃ n ∈ l, n.work = (i : Int)
/-! ### Lists in order -/
theorem asc_of {l : List Int} (h : l.Pairwise (· < ·)) : AscTo l l.length := by
  intro j h1 h2
  rw [getD_el l (by omega) 0, getD_el l h2 0]
  exact List.pairwise_iff_getElem.1 h (j - 1) j (by omega) h2 (by omega)
theorem listed_of {n : Nat} {l : List Int} (h : ∀ x ∈ l, 0 ≤ x ∧ x < (n : Int)) (ha : l.Pairwise (· < ·)) : listedE n l = 0 := by
  unfold listedE
  rw [if_neg, if_pos (asc_of ha)]
  rw [Bool.not_eq_true, Bool.not_eq_false', List.all_eq_true]
  intro x hx
  have := h x hx
  unfold inB
  simp only [Bool.and_eq_true, decide_eq_true_eq]
  omega
theorem pair_snoc {l : List Int} {x : Int} (h : l.Pairwise (· < ·)) (hx : ∀ y ∈ l, y < x) : (l ++ [x]).Pairwise (· < ·) := by
  rw [List.pairwise_append]
  exact ⟨h, by simp, fun a ha b hb => by rw [List.mem_singleton.1 hb]; exact hx a ha⟩
/-! ### Publications -/
end Go.Nm
namespace Go.Nm
structure NtOk (ws : List Work) (s : Nat) (l6 l7 : List Note) : Prop where
  src : ∀ n ∈ l6 ++ l7, 0 ≤ n.work ∧ n.work < (s : Int) ∧ (ws.getD n.work.toNat default).of = []
  rng : ∀ n ∈ l6 ++ l7, 0 ≤ n.version ∧ n.version ≤ 8 ∧ 0 ≤ n.value ∧ n.value < 2000
  uniq : Uniq (l6 ++ l7)
  all : ∀ i, i < s → (ws.getD i default).of = [] → ∃ n ∈ l6, n.work = (i : Int)
  len6 : l6.length ≤ s
  len7 : l7.length ≤ 8 * s
theorem NtOk.next {ws : List Work} {s : Nat} {l6 l7 : List Note} (h : NtOk ws s l6 l7) (hs : (ws.getD s default).of ≠ []) : NtOk ws (s + 1) l6 l7 :=
  ⟨fun n hn => by have := h.src n hn; exact ⟨this.1, by omega, this.2.2⟩, h.rng, h.uniq, fun i hi he => by
    by_cases e : i = s
    · subst e; exact absurd he hs
    · exact h.all i (by omega) he, by have := h.len6; omega, by have := h.len7; omega⟩
/-- Old notes of one source, up to a version. -/
structure OldOk (ws : List Work) (s v : Nat) (n0 : Note) (l6 l7 l : List Note) : Prop where
  src : ∀ b ∈ l, b ∈ l7 ∨ (b.work = (s : Int) ∧ 0 ≤ b.version ∧ b.version < (v : Int) ∧ 0 ≤ b.value ∧ b.value < 2000)
  uniq : Uniq ((l6 ++ [n0]) ++ l)
  len : l.length ≤ l7.length + v
theorem NtOk.start {ws : List Work} {s : Nat} {l6 l7 : List Note} (h : NtOk ws s l6 l7) {n0 : Note} (hw : n0.work = (s : Int)) : OldOk ws s 0 n0 l6 l7 l7 := by
  refine ⟨fun b hb => .inl hb, ?_, Nat.le_refl _⟩
  refine h.uniq.add (n := n0) (fun a ha => ?_) (fun a ha hh => ?_)
  · simp only [List.mem_append, List.mem_cons, List.not_mem_nil, or_false] at ha ⊢
    rcases ha with (ha | ha) | ha
    · exact .inl (.inl ha)
    · exact .inr ha
    · exact .inl (.inr ha)
  · have := h.src a ha
    rw [hw] at hh
    omega
theorem OldOk.skip {ws : List Work} {s v : Nat} {n0 : Note} {l6 l7 l : List Note} (h : OldOk ws s v n0 l6 l7 l) : OldOk ws s (v + 1) n0 l6 l7 l :=
  ⟨fun b hb => (h.src b hb).imp id fun x => ⟨x.1, x.2.1, by omega, x.2.2.2⟩, h.uniq, by have := h.len; omega⟩
theorem OldOk.put {ws : List Work} {s v : Nat} {n0 : Note} {l6 l7 l : List Note} (hN : NtOk ws s l6 l7) (h : OldOk ws s v n0 l6 l7 l) (hv : (v : Int) < n0.version) {z : Int} (z0 : 0 ≤ z) (z1 : z < 2000) :
    OldOk ws s (v + 1) n0 l6 l7 (l ++ [⟨(s : Int), (v : Int), z⟩]) := by
  refine ⟨fun b hb => ?_, ?_, by have := h.len; simp only [List.length_append, List.length_cons, List.length_nil]; omega⟩
  · rcases List.mem_append.1 hb with hb | hb
    · exact h.skip.src b hb
    · rw [List.mem_singleton] at hb
      subst hb
      exact .inr ⟨rfl, by dsimp only; omega, by dsimp only; omega, z0, z1⟩
  · refine h.uniq.add (n := ⟨(s : Int), (v : Int), z⟩) (fun a ha => ?_) (fun a ha hh => ?_)
    · rw [← List.append_assoc, List.mem_append, List.mem_singleton] at ha
      exact ha
    · dsimp only at hh
      simp only [List.mem_append, List.mem_cons, List.not_mem_nil, or_false] at ha
      rcases ha with (ha | ha) | ha
      · have := hN.src a (List.mem_append_left _ ha); omega
      · subst ha; omega
      · rcases h.src a ha with ha | ha
        · have := hN.src a (List.mem_append_right _ ha); omega
        · omega
theorem OldOk.done {ws : List Work} {s v : Nat} {n0 : Note} {l6 l7 l : List Note} (hN : NtOk ws s l6 l7) (h : OldOk ws s v n0 l6 l7 l) (hw : n0.work = (s : Int)) (hs : (ws.getD s default).of = [])
    (hv : 0 ≤ n0.version ∧ n0.version ≤ 8 ∧ 0 ≤ n0.value ∧ n0.value < 2000) (hv8 : (v : Int) ≤ 8) : NtOk ws (s + 1) (l6 ++ [n0]) l := by
  have hm : ∀ n ∈ (l6 ++ [n0]) ++ l, n ∈ l6 ++ l7 ∨ n = n0 ∨ (n.work = (s : Int) ∧ 0 ≤ n.version ∧ n.version < (v : Int) ∧ 0 ≤ n.value ∧ n.value < 2000) := by
    intro n hn
    simp only [List.mem_append, List.mem_cons, List.not_mem_nil, or_false] at hn ⊢
    rcases hn with (hn | hn) | hn
    · exact .inl (.inl hn)
    · exact .inr (.inl hn)
    · rcases h.src n hn with h1 | h1
      · exact .inl (.inr h1)
      · exact .inr (.inr h1)
  refine ⟨fun n hn => ?_, fun n hn => ?_, h.uniq, fun i hi he => ?_, ?_, ?_⟩
  · rcases hm n hn with h1 | h1 | h1
    · have := hN.src n h1; exact ⟨this.1, by omega, this.2.2⟩
    · subst h1; rw [hw]; exact ⟨by omega, by omega, by rw [Int.toNat_natCast]; exact hs⟩
    · rw [h1.1]; exact ⟨by omega, by omega, by rw [Int.toNat_natCast]; exact hs⟩
  · rcases hm n hn with h1 | h1 | h1
    · exact hN.rng n h1
    · subst h1; exact hv
    · omega
  · by_cases e : i = s
    · exact ⟨n0, by simp, by rw [hw, e]⟩
    · obtain ⟨n, h1, h2⟩ := hN.all i (by omega) he
      exact ⟨n, List.mem_append_left _ h1, h2⟩
  · have := hN.len6; simp only [List.length_append, List.length_cons, List.length_nil]; omega
  · have := hN.len7; have := h.len; omega
/-- The numbers from 0 to n - 1. -/
def upto (n : Nat) : List Int := (List.range n).map fun j : Nat => (j : Int)
end Go.Nm
namespace Go.Proofs.Ytndobgodeicloaa
open Go Go.Nm
variable {ws : List Work}
end Go.Proofs.Ytndobgodeicloaa
section
set_option maxRecDepth 100000
set_option maxHeartbeats 16000000
namespace Go.Proofs.Ytndobgodeicloaa
open Go Go.Nm
def m_nilometerlaw13_Revised_b0 (s_bytes : List UInt8) (w_ : List Work) : (Int × Int × Nat × (List Int)) → M ((Int × Int × Nat × (List Int)) ⊕ (Int × Int × (List Int) × (List Int))) := fun (s2, s3, s4, l) =>
  bif decide ((s4 : Int) < (w_.length : Int)) then (
  M.bind (m_nilometerkit_Stream_Next s_bytes s2 s3 4) fun (r2, q1, q2) =>
  bif r2 == 0 then (
  M.grd (decide ((l.length + ([(s4 : Int)]).length) * 8 ≤ 140737488355328)) <|
  M.pure (.inl (q1, q2, s4 + 1, l ++ ([(s4 : Int)]))))
  else (
  M.pure (.inl (q1, q2, s4 + 1, l))))
  else (
  M.pure (.inr (s2, s3, l, l)))
def m_nilometerlaw13_Revised (s_bytes : List UInt8) (s_used : Int) (s_mix : Int) (w_ : List Work) : M ((List Int) × Int × Int) :=
  M.bind (M.iter (m_nilometerlaw13_Revised_b0 s_bytes w_) (s_used, s_mix, 0, [])) fun (s5, s6, l2, l3) =>
  bif (l3.length : Int) == 0 then (
  M.bind (m_nilometerkit_Stream_Next s_bytes s5 s6 (w_.length : Int)) fun (r3, q12, q22) =>
  M.grd (decide ((l3.length + ([(r3 : Int)]).length) * 8 ≤ 140737488355328)) <|
  M.pure ((l3 ++ ([(r3 : Int)])), q12, q22))
  else (
  M.pure (l3, s5, s6))
theorem nilometerlaw13_Revised_ok {R : List Chunk} {b_s : Nat} {C_s_bytes : Cells} {v_s_bytes : Value} {C_w_ : Cells} {v_w_ : Value} (s_bytes : List UInt8) (s_used : Int) (s_mix : Int) (w_ : List Work) (hC_s_bytes : Reads R C_s_bytes) (hs_s_bytes : Sl C_s_bytes v_s_bytes s_bytes) (hC_w_ : Reads R C_w_) (hs_w_ : Sl C_w_ v_w_ w_) {r : ((List Int) × Int × Int)} (hM : (m_nilometerlaw13_Revised s_bytes s_used s_mix w_).Ends r) (w : World) (H : St w w [cBlk b_s [v_s_bytes, I s_used, I s_mix] 158] R) : Ret Try.prog 47 #[Pz b_s, v_w_] w fun v w' => ∃ (y0 : List Int) (y1 : Int) (y2 : Int) (u0 : Value), (y0, y1, y2) = r ∧ v = u0 ∧ St w w' [cOwn (α := Int) 3 u0 y0, cBlk b_s [v_s_bytes, I y1, I y2] 158] R := by
 refine ret_of_W Try.func47 rfl rfl rfl ?_
 refine sQ rfl <| sA (.slice none 0 0) rfl <| s_nil <| sQ rfl <| sA (.slice none 0 0) rfl <| s_nil <| W.seq <| sQ rfl <| sM v_w_ rfl ?_
 have hl1z := (hs_w_).len_le
 refine s_val (x_lenS T22.und rfl hs_w_) <| sM (I 0) rfl <| s_nil <| W.block ?_
 replace H : St w w [cOwn (α := Int) 3 (.slice none 0 0) ([]), cBlk b_s [v_s_bytes, I s_used, I s_mix] 158] R := H.nilOwn (α := Int) 3
 obtain ⟨ex2z, hi3z, hk4z⟩ := M.e_bind hM
 obtain ⟨m0_, hi3z⟩ := M.e_iter hi3z
 refine W.loop (fun m σ W => ∃ (s2 : Int) (s3 : Int) (s4 : Nat) (l : List Int) (v_l : Value) (ρ : Env), σ = upds ρ [(0, Pz b_s), (1, v_w_), (5, v_l), (8, I (w_.length : Int)), (9, I (s4 : Int))] ∧ M.iterN (m_nilometerlaw13_Revised_b0 s_bytes w_) m (s2, s3, s4, l) = some ex2z ∧ St w W [cOwn (α := Int) 3 v_l l, cBlk b_s [v_s_bytes, I s2, I s3] 158] R) ?_ ?_
 ·exact ⟨_, s_used, s_mix, 0, [], (.slice none 0 0), _, upds_of _ _ ⟨rfl, rfl, rfl, rfl, rfl, trivial⟩, hi3z, H⟩
 rintro m7z σ w5z ⟨s2, s3, s4, l, v_l, ρ, rfl, hI6z, H⟩
 obtain ⟨m8z, lt9z, x10z, hM, hN11z⟩ := M.e_iterN hI6z
 simp only [m_nilometerlaw13_Revised_b0] at hM
 clear hI6z
 refine sQ rfl <| sC (s4 : Int) (w_.length : Int) (decide ((s4 : Int) < (w_.length : Int))) rfl rfl rfl <| s_nil <| W.seq ?_
 refine W.cond (decide ((s4 : Int) < (w_.length : Int))) rfl (fun c12z => ?_) (fun c12z => ?_)
 ·replace hM := M.e_t hM c12z
  simp only [qz1, qz2, qz3, qz4, qz5, qz6, ne_eq, qz7] at c12z
  refine W.skip <| W.seq <| W.block <| sQ rfl <| sM (I (s4 : Int)) rfl <| sA (I (s4 : Int)) rfl <| s_nil <| sQ rfl <| sM (Pz b_s) rfl ?_
  obtain ⟨r14z, hx13z, hM⟩ := M.e_bind hM
  refine s_call cf44 [Pz b_s, I 4] rfl (nilometerkit_Stream_Next_ok s_bytes s2 s3 4 (hC_s_bytes.app _) hs_s_bytes hx13z _ (St.give (L := [cBlk b_s [v_s_bytes, I s2, I s3] 158, cOwn (α := Int) 3 v_l l]) (A := [cBlk b_s [v_s_bytes, I s2, I s3] 158]) (T := [cOwn (α := Int) 3 v_l l]) (H.pick [1, 0] (by decide) rfl) rfl)) ?_
  rintro vq w15z ⟨r2, q1, q2, hr16z, hvq, H2_⟩
  subst hr16z
  subst vq
  try dsimp only at hM
  replace H : St w w15z [cBlk b_s [v_s_bytes, I q1, I q2] 158, cOwn (α := Int) 3 v_l l] R := H.pick [1, 0] (by decide) rfl |>.back H2_ rfl
  clear H2_
  refine sC r2 0 (r2 == 0) rfl rfl rfl <| s_nil ?_
  refine W.cond (r2 == 0) rfl (fun c17z => ?_) (fun c17z => ?_)
  ·replace hM := M.e_t hM c17z
   simp only [qz1, qz2, qz3, qz4, qz5, qz6, ne_eq, qz7] at c17z
   refine W.region rfl <| sM v_l rfl <| sM (I (s4 : Int)) rfl ?_
   refine t_bs (α := Int) T34 [I (s4 : Int)] [(s4 : Int)] H rfl (.cons rfl (Flat.rep_enc _ (s4 : Int)) <| .nil) rfl rfl rfl ?_
   intro v18z w19z H
   obtain ⟨sd20z, hM⟩ := M.e_gd hM
   refine t_app (α := Int) (k := 2) (l := l) (l2 := [(s4 : Int)]) (l' := l ++ ([(s4 : Int)])) (vy := v18z) T34 rfl H rfl rfl rfl (ownSl (H.get (k := 0) rfl)) (ownLe _ (H.get (k := 0) rfl)) (rfl) (by first | omega | (simp only [List.length_nil] at *; omega)) ?_
   intro v21z w22z H
   replace H : St w w22z [cOwn (α := Int) 3 v18z ([(s4 : Int)]), cBlk b_s [v_s_bytes, I q1, I q2] 158, cOwn (α := Int) 3 v21z (l ++ ([(s4 : Int)]))] R := H
   refine sA v21z rfl <| s_nil <| W.region rfl <| sR (s4 : Int) 1 ((s4 : Int) + 1) rfl rfl rfl (by omega) <| sM (I ((s4 : Int) + 1)) rfl <| s_nil ?_
   exact ⟨m8z, lt9z, q1, q2, s4 + 1, l ++ ([(s4 : Int)]), v21z, _, upds_of _ _ ⟨rfl, rfl, rfl, rfl, rfl, trivial⟩, M.e_inl hM hN11z, (H.pick [2, 1] (by decide) rfl)⟩
  replace hM := M.e_f hM c17z
  simp only [qz1, qz2, qz3, qz4, qz5, qz6, ne_eq, qz7] at c17z
  refine W.skip <| W.region rfl <| sR (s4 : Int) 1 ((s4 : Int) + 1) rfl rfl rfl (by omega) <| sM (I ((s4 : Int) + 1)) rfl <| s_nil ?_
  exact ⟨m8z, lt9z, q1, q2, s4 + 1, l, v_l, _, upds_of _ _ ⟨rfl, rfl, rfl, rfl, rfl, trivial⟩, M.e_inl hM hN11z, (H.pick [1, 0] (by decide) rfl)⟩
 replace hM := M.e_f hM c12z
 simp only [qz1, qz2, qz3, qz4, qz5, qz6, ne_eq, qz7] at c12z
 refine W.exit ?_
 have hX23z := M.e_inr hM hN11z
 subst hX23z
 replace hM := hk4z
 try dsimp only at hM
 refine W.seq <| sQ rfl <| sM v_l rfl ?_
 have hl24z := ((ownSl (H.get (k := 0) rfl))).len_le
 refine s_val (x_lenS T34.und rfl (ownSl (H.get (k := 0) rfl))) <| sC (l.length : Int) 0 ((l.length : Int) == 0) rfl rfl rfl <| s_nil ?_
 refine W.cond ((l.length : Int) == 0) rfl (fun c25z => ?_) (fun c25z => ?_)
 ·replace hM := M.e_t hM c25z
  simp only [qz1, qz2, qz3, qz4, qz5, qz6, ne_eq, qz7] at c25z
  refine W.region rfl <| sM v_l rfl <| sM (Pz b_s) rfl <| sM v_w_ rfl ?_
  have hl26z := (hs_w_).len_le
  refine s_val (x_lenS T22.und rfl hs_w_) ?_
  obtain ⟨r28z, hx27z, hM⟩ := M.e_bind hM
  refine s_call cf44 [Pz b_s, I (w_.length : Int)] rfl (nilometerkit_Stream_Next_ok s_bytes s2 s3 (w_.length : Int) (hC_s_bytes.app _) hs_s_bytes hx27z _ (St.give (L := [cBlk b_s [v_s_bytes, I s2, I s3] 158, cOwn (α := Int) 3 v_l l]) (A := [cBlk b_s [v_s_bytes, I s2, I s3] 158]) (T := [cOwn (α := Int) 3 v_l l]) (H.pick [1, 0] (by decide) rfl) rfl)) ?_
  rintro vq w29z ⟨r3, q12, q22, hr30z, hvq, H2_⟩
  subst hr30z
  subst vq
  try dsimp only at hM
  replace H : St w w29z [cBlk b_s [v_s_bytes, I q12, I q22] 158, cOwn (α := Int) 3 v_l l] R := H.pick [1, 0] (by decide) rfl |>.back H2_ rfl
  clear H2_
  refine t_bs (α := Int) T34 [I r3] [(r3 : Int)] H rfl (.cons rfl (Flat.rep_enc _ (r3 : Int)) <| .nil) rfl rfl rfl ?_
  intro v31z w32z H
  obtain ⟨sd33z, hM⟩ := M.e_gd hM
  refine t_app (α := Int) (k := 2) (l := l) (l2 := [(r3 : Int)]) (l' := l ++ ([(r3 : Int)])) (vy := v31z) T34 rfl H rfl rfl rfl (ownSl (H.get (k := 0) rfl)) (ownLe _ (H.get (k := 0) rfl)) (rfl) (by first | omega | (simp only [List.length_nil] at *; omega)) ?_
  intro v34z w35z H
  replace H : St w w35z [cOwn (α := Int) 3 v31z ([(r3 : Int)]), cBlk b_s [v_s_bytes, I q12, I q22] 158, cOwn (α := Int) 3 v34z (l ++ ([(r3 : Int)]))] R := H
  refine sA v34z rfl <| s_nil <| sQ rfl <| sM v34z rfl <| sA v34z rfl <| s_nil ?_
  refine W.ret ?_
  have hr_ := M.e_pure hM
  exact ⟨_, resE_tmp rfl, ⟨(l ++ ([(r3 : Int)])), q12, q22, v34z, hr_, rfl, (H.pick [2, 1] (by decide) rfl)⟩⟩
 replace hM := M.e_f hM c25z
 simp only [qz1, qz2, qz3, qz4, qz5, qz6, ne_eq, qz7] at c25z
 refine W.skip <| sQ rfl <| sM v_l rfl <| sA v_l rfl <| s_nil ?_
 refine W.ret ?_
 have hr_ := M.e_pure hM
 exact ⟨_, resE_tmp rfl, ⟨l, s2, s3, v_l, hr_, rfl, H⟩⟩

def m_notes_Leads_1 (i : Int) (k02 : List Work) : M Bool :=
  M.pure (inB i 0 ((k02.length : Int) - 1))
def m_notes_web_leads_b0 (w__list_works : List Work) (line_ : List Int) : Nat → M (Nat ⊕ (Unit ⊕ Unit)) := fun i =>
  bif decide ((i : Int) < (line_.length : Int)) then (
  M.grd (decide ((i : Int) < (line_.length : Int))) <|
  M.grd (decide ((-9223372036854775808 : Int) ≤ ((i : Int) - 1)) && decide (((i : Int) - 1) ≤ (9223372036854775807 : Int))) <|
  M.grd (decide ((0 : Int) ≤ ((i : Int) - 1)) && decide (((i : Int) - 1) < (line_.length : Int))) <|
  M.bind (m_notes_web_of w__list_works (line_.getD i 0) (line_.getD (Int.toNat ((i : Int) - 1)) 0)) fun r2 =>
  bif !r2 then (
  M.pure (.inr (.inl ())))
  else (
  M.pure (.inl (i + 1))))
  else (
  M.pure (.inr (.inr ())))
def m_notes_web_leads (w__list_works : List Work) (line_ : List Int) : M Bool :=
  M.bind (M.iter (m_notes_web_leads_b0 w__list_works line_) 1) fun x_ => match x_ with
  | (.inl (_ : Unit)) => (
  M.pure false)
  | (.inr (_ : Unit)) => (
  M.pure (decide (0 < (line_.length : Int))))
def m_notes_Leads (w_ : List Work) (line_ : List Int) : M (Bool × Int) :=
  bif (openedE w_ == 0) then (
  bif (0 : Int) != 0 then (M.fail) else (M.bind (m_notes_every_int (fun xqz => m_notes_Leads_1 xqz w_) line_) fun r2 =>
  bif !r2 then (
  M.pure (false, 2))
  else (
  M.bind (m_notes_web_leads w_ line_) fun r3 =>
  M.pure (r3, 0))))
  else (
  bif (openedE w_) != 0 then (
  M.pure (false, (openedE w_)))
  else (
  M.bind (m_notes_every_int (fun xqz => m_notes_Leads_1 xqz w_) line_) fun r2 =>
  bif !r2 then (
  M.pure (false, 2))
  else (
  M.fail)))
end Go.Proofs.Ytndobgodeicloaa
end
namespace Go.Nm
end Go.Nm
namespace Go.Proofs.Ytndobgodeicloaa
open Go Go.Nm
variable {ws : List Work}
structure RevOk (ws : List Work) (rv : List Int) : Prop where
  some : rv ≠ []
  asc : rv.Pairwise (· < ·)
  lt : ∀ x ∈ rv, 0 ≤ x ∧ x < (ws.length : Int)
  few : rv.length ≤ ws.length
theorem RevOk.asked {rv : List Int} (h : RevOk ws rv) (hO : openedE ws = 0) : askedE ws rv = 0 := by rw [asked_list hO]; exact listed_of h.lt h.asc
theorem revised_out {b : List UInt8} {c u x : Int} (h : SOk c u x) (hc : c ≤ 100000000) (hw : ws.length ≤ 30) (h1 : 1 ≤ ws.length) :
    (m_nilometerlaw13_Revised b u x ws).Out (fun y => RevOk ws y.1 ∧ SOk (c + 100) y.2.1 y.2.2) := by
  unfold m_nilometerlaw13_Revised
  refine M.o_bind (P := fun y => SOk (c + 30) y.1 y.2.1 ∧ y.2.2.2.Pairwise (· < ·) ∧ (∀ x ∈ y.2.2.2, 0 ≤ x ∧ x < (ws.length : Int)) ∧ y.2.2.2.length ≤ ws.length) ?_ ?_
  · refine M.o_for ws.length (fun i st => st.2.2.1 = i ∧ SOk (c + (i : Int)) st.1 st.2.1 ∧ st.2.2.2.Pairwise (· < ·) ∧ (∀ x ∈ st.2.2.2, 0 ≤ x ∧ x < (i : Int)) ∧ st.2.2.2.length ≤ i) ?_ ?_ (s := (u, x, 0, [])) ⟨rfl, h.mono (by omega), by simp, by simp, by simp⟩
    · rintro i ⟨u, x, j, l⟩ hi ⟨rfl, ok, hp, hl, hle⟩
      dsimp only at hi ok hp hl hle ⊢
      simp only [m_nilometerlaw13_Revised_b0]
      refine M.o_t (by simpa using hi) (M.o_bind (next_out ok (by omega) (by omega)) ?_)
      rintro ⟨r, u', x'⟩ ⟨ok', _, _⟩
      dsimp only at ok' ⊢
      refine M.o_if (fun hb => ?_) (fun hb => ?_)
      · refine M.o_grdD (by simp only [List.length_cons, List.length_nil]; omega) (M.o_pure ⟨rfl, ok'.mono (by omega), pair_snoc hp (fun y hy => (hl y hy).2), fun y hy => ?_, by simp only [List.length_append, List.length_cons, List.length_nil]; omega⟩)
        rcases List.mem_append.1 hy with hy | hy
        · have := hl y hy; omega
        · rw [List.mem_singleton.1 hy]; omega
      · exact M.o_pure ⟨rfl, ok'.mono (by omega), hp, fun y hy => by have := hl y hy; omega, by dsimp only; omega⟩
    · rintro ⟨u, x, j, l⟩ ⟨rfl, ok, hp, hl, hle⟩
      dsimp only at ok hp hl hle ⊢
      simp only [m_nilometerlaw13_Revised_b0]
      exact M.o_f (by simp) (M.o_pure ⟨ok.mono (by omega), hp, hl, hle⟩)
  · rintro ⟨u, x, la, l⟩ ⟨ok, hp, hl, hle⟩
    dsimp only at ok hp hl hle ⊢
    refine M.o_if (fun hb => ?_) (fun hb => ?_)
    · have e : l = [] := List.eq_nil_of_length_eq_zero (by have := eq_of_beq hb; omega)
      subst e
      refine M.o_bind (next_out ok (by omega) (by omega)) ?_
      rintro ⟨r, u', x'⟩ ⟨ok', lt, _⟩
      dsimp only at ok' lt ⊢
      have lt := lt (by omega)
      refine M.o_grdD (by simp only [List.length_cons, List.length_nil]; omega) (M.o_pure ⟨⟨by simp, by simp, fun y hy => ?_, by simp; omega⟩, ok'.mono (by omega)⟩)
      simp only [List.nil_append, List.mem_cons, List.not_mem_nil, or_false] at hy
      rw [hy]
      exact lt
    · exact M.o_pure ⟨⟨fun e => by dsimp only at e; rw [e] at hb; simp at hb, hp, hl, hle⟩, ok.mono (by omega)⟩
end Go.Proofs.Ytndobgodeicloaa
namespace Go.Nm
variable {ws : List Work} {rv : List Int}
/-- One work takes longer. -/
def slowW (ws : List Work) (w : Nat) (L : Int) : List Work := ws.set w { (ws.getD w default) with minutes := (ws.getD w default).minutes + L }
theorem readyR_at (h : askedE ws rv = 0) {i : Nat} (hi : i < ws.length) : (readyR ws rv).getD i 0 = if (staleL ws rv).getD i false = true then begF (readyR ws rv) (ws.getD i default).of + (ws.getD i default).minutes else -1 := by
  have := ready_eq (asked_ok h).1 (staleL ws rv) (i := (i : Int)) (by omega) (by omega)
  rw [readyR_ok h, Int.toNat_natCast] at this
  exact this
end Go.Nm
namespace Go.Proofs.Ytndobgodeicloaa
open Go Go.Nm
variable {ws : List Work} {rev f : List Int}
/-! ### Fences -/
/-- Is a work that is made of one outside a list? -/
def leak (ws : List Work) (f : List Int) (x : Int) (j : Nat) : Bool := (ws.getD j default).of.contains x && !(f.contains (j : Int))
end Go.Proofs.Ytndobgodeicloaa
namespace Go.Nm
variable {ws : List Work} {rv f : List Int}
structure FenceW (ws : List Work) (rv f : List Int) : Prop where
  rev : ∀ x ∈ rv, x ∈ f
  cl : ∀ i, i < ws.length → ∀ k ∈ (ws.getD i default).of, k ∈ f → (i : Int) ∈ f
/-- A fence has all that is stale. -/
theorem FenceW.all (h : FenceW ws rv f) (hB : Built ws) : ∀ i, i < ws.length → (staleL ws rv).getD i false = true → (i : Int) ∈ f := by
  intro i
  induction i using Nat.strongRecOn with
  | _ i ih =>
    intro hi hs
    have he := stale_eq hB.opened rv (i := (i : Int)) (by omega) (by omega)
    rw [Int.toNat_natCast, hs] at he
    have he := he.symm
    rw [Bool.or_eq_true] at he
    rcases he with he | he
    · exact h.rev _ (by simpa using he)
    · obtain ⟨k, hk, hks⟩ := List.any_eq_true.1 he
      have ha := (hB.at_ i hi).ahead k hk
      have := ih k.toNat (by omega) (by omega) hks
      rw [Int.toNat_of_nonneg ha.1] at this
      exact h.cl i hi k hk this
end Go.Nm
namespace Go.Proofs.Ytndobgodeicloaa
open Go Go.Nm
variable {ws : List Work} {rv : List Int}
end Go.Proofs.Ytndobgodeicloaa
namespace Go.Proofs.Ytndobgodeicloaa
open Go Go.Nm
theorem awake_ends : m_nilometerlaw13_awake.Ends true := ⟨40, by kernel_rfl⟩
end Go.Proofs.Ytndobgodeicloaa
namespace Go.Nm
open Go
section
variable {P : Program} {w : World} {σ : Env} {d : Nat} {ty : TypeId} {pos : String} {af : Array Edge} {g : Option (Nat × Bool)}
end
end Go.Nm
namespace Go.Nm
open Go
structure Span where
  lo : Int
  hi : Int
deriving DecidableEq, Inhabited
instance : Flat Span where
  rep _ cs x := cs = [I x.lo, I x.hi]
  sz := 2
  agg := true
  sz_pos := by decide
  len := fun h => by subst h; rfl
  mono := fun _ h => h
  one := fun h v hv => by subst h; simp at hv; rcases hv with rfl | rfl <;> rfl
  enc x := [I x.lo, I x.hi]
  rep_iff := Iff.rfl
theorem Span_rep {C : Cells} {cs : List Value} {x : Span} (h : Elt.rep C cs x) : cs = [I x.lo, I x.hi] := h
theorem Span_atA {C : Cells} {v : Value} {i : Int} {l : List Span} (h : Sl C v l) (h0 : 0 ≤ i) (h1 : i < l.length) : At C (vat v 2 i.toNat) [I (l.getD i.toNat default).lo, I (l.getD i.toNat default).hi] := by
  obtain ⟨cs, ha, hr⟩ := h.atI h0 h1 default
  obtain rfl := Span_rep hr
  exact ha
theorem Span_at1 {C : Cells} {v : Value} {i : Int} {l : List Span} (h : Sl C v l) (h0 : 0 ≤ i) (h1 : i < l.length) : At C (fat (vat v 2 i.toNat) 1) [I (l.getD i.toNat default).hi] := (Span_atA h h0 h1).fld 1 1
structure Visit where
  wlo : Int
  whi : Int
  klo : Int
  khi : Int
  opn : Int
  cls : Int
deriving DecidableEq, Inhabited
instance : Flat Visit where
  rep _ cs x := cs = [I x.wlo, I x.whi, I x.klo, I x.khi, I x.opn, I x.cls]
  sz := 6
  agg := true
  sz_pos := by decide
  len := fun h => by subst h; rfl
  mono := fun _ h => h
  one := fun h v hv => by subst h; simp at hv; rcases hv with rfl | rfl | rfl | rfl | rfl | rfl <;> rfl
  enc x := [I x.wlo, I x.whi, I x.klo, I x.khi, I x.opn, I x.cls]
  rep_iff := Iff.rfl
theorem Visit_rep {C : Cells} {cs : List Value} {x : Visit} (h : Elt.rep C cs x) : cs = [I x.wlo, I x.whi, I x.klo, I x.khi, I x.opn, I x.cls] := h
theorem Visit_arg {C : Cells} {v : Value} {x : Visit} (h : Arg C v x) : v = .agg #[I x.wlo, I x.whi, I x.klo, I x.khi, I x.opn, I x.cls] := by
  obtain ⟨cs, h1, h2⟩ := h
  obtain rfl := Visit_rep h1
  exact h2
theorem Visit_atA {C : Cells} {v : Value} {i : Int} {l : List Visit} (h : Sl C v l) (h0 : 0 ≤ i) (h1 : i < l.length) : At C (vat v 6 i.toNat) [I (l.getD i.toNat default).wlo, I (l.getD i.toNat default).whi, I (l.getD i.toNat default).klo, I (l.getD i.toNat default).khi, I (l.getD i.toNat default).opn, I (l.getD i.toNat default).cls] := by
  obtain ⟨cs, ha, hr⟩ := h.atI h0 h1 default
  obtain rfl := Visit_rep hr
  exact ha
theorem Visit_at1 {C : Cells} {v : Value} {i : Int} {l : List Visit} (h : Sl C v l) (h0 : 0 ≤ i) (h1 : i < l.length) : At C (fat (vat v 6 i.toNat) 1) [I (l.getD i.toNat default).whi] := (Visit_atA h h0 h1).fld 1 1
theorem Visit_at3 {C : Cells} {v : Value} {i : Int} {l : List Visit} (h : Sl C v l) (h0 : 0 ≤ i) (h1 : i < l.length) : At C (fat (vat v 6 i.toNat) 3) [I (l.getD i.toNat default).khi] := (Visit_atA h h0 h1).fld 3 1
theorem Visit_at4 {C : Cells} {v : Value} {i : Int} {l : List Visit} (h : Sl C v l) (h0 : 0 ≤ i) (h1 : i < l.length) : At C (fat (vat v 6 i.toNat) 4) [I (l.getD i.toNat default).opn] := (Visit_atA h h0 h1).fld 4 1
theorem Visit_at5 {C : Cells} {v : Value} {i : Int} {l : List Visit} (h : Sl C v l) (h0 : 0 ≤ i) (h1 : i < l.length) : At C (fat (vat v 6 i.toNat) 5) [I (l.getD i.toNat default).cls] := (Visit_atA h h0 h1).fld 5 1
/-- A field of a field. -/
theorem fat_fat {p : Value} (hp : ∃ b o, p = .pointer (some ⟨b, o, none⟩)) (a c : Nat) : fat (fat p a) c = fat p (a + c) := by
  obtain ⟨b, o, rfl⟩ := hp
  simp [fat, add_lit, Nat.add_assoc]
section
variable {P : Program} {w : World}
theorem fa_pl2 {s : TypeId} {k off a c : Nat} {ft : TypeId}
    (h : (P.underlying s).bind (fun d => match d with | .struct fs => (fs[k]?).map (fun f => (f.offset, f.type)) | _ => none) = some (off, ft))
    {n : Nat} (hn : (P.info? ft).map (·.size) = some (n + 1)) {p : Value} (hp : ∃ b o, p = .pointer (some ⟨b, o, none⟩)) (hc : a + off = c) : (Instr.fieldAt s (fat p a) k).run P w = .ok (fat p c) w := by
  subst hc
  rw [fa_pl h hn (p := fat p a) (by obtain ⟨b, o, rfl⟩ := hp; exact ⟨b, o + a, by simp [fat, add_lit]⟩), fat_fat hp]
end
end Go.Nm
section
set_option maxRecDepth 100000
set_option maxHeartbeats 16000000
namespace Go.Proofs.Ytndobgodeicloaa
open Go Go.Nm
def m_notes_Order (w_ : List Work) : M ((List Int) × Int) :=
  bif (openedE w_ == 0) then (
  bif (0 : Int) != 0 then (M.fail) else (M.pure ((orderP w_), 0)))
  else (
  bif (openedE w_) != 0 then (
  M.pure (([]), (openedE w_)))
  else (
  M.pure (([]), 0)))
theorem notes_Order_ok {R : List Chunk} {C_w_ : Cells} {v_w_ : Value} (w_ : List Work) (hC_w_ : Reads R C_w_) (hs_w_ : Sl C_w_ v_w_ w_) {r : ((List Int) × Int)} (hM : (m_notes_Order w_).Ends r) (w : World) (H : St w w [] R) : Ret Try.prog 54 #[v_w_] w fun v w' => ∃ (y0 : List Int) (y1 : Int) (u0 : Value) (Bs1 : Base), (y0, y1) = r ∧ v = .tuple #[u0, I y1] ∧ St w w' [cRo Bs1] R ∧ Sl Bs1.cells u0 y0 := by
 refine ret_of_W Try.func54 rfl rfl rfl ?_
 refine sQ rfl <| sA (.slice none 0 0) rfl <| sA (I 0) rfl <| s_nil <| sQ rfl <| sM v_w_ rfl ?_
 refine s_call cf81 [v_w_] rfl (opened_any _ (hs_w_.mono (hC_w_.at H))) ?_
 rintro _ w1z (⟨he_, rfl, hx_⟩ | ⟨he_, b_1, u2z, rfl, hn_, hs3z⟩)
 ·replace hM := M.e_f hM (by simpa using he_)
  replace H : St w w1z [] R := H.ext hx_
  clear hx_
  refine sM (.tuple #[.pointer none, .slice none 0 0, I (openedE w_)]) rfl <| sX [.pointer none, .slice none 0 0, I (openedE w_)] (.pointer none) rfl rfl <| sX [.pointer none, .slice none 0 0, I (openedE w_)] (.slice none 0 0) rfl rfl <| sX [.pointer none, .slice none 0 0, I (openedE w_)] (I (openedE w_)) rfl rfl <| sA (.pointer none) rfl <| sA (.slice none 0 0) rfl <| sA (I (openedE w_)) rfl <| s_nil <| W.seq <| sQ rfl <| sM (I (openedE w_)) rfl ?_
  refine sC (openedE w_) 0 ((openedE w_) != 0) rfl rfl rfl <| s_nil ?_
  refine W.cond ((openedE w_) != 0) rfl (fun c4z => ?_) (fun c4z => ?_)
  ·replace hM := M.e_t hM c4z
   simp only [qz1, qz2, qz3, qz4, qz5, qz6, ne_eq, qz7] at c4z
   refine sQ rfl <| sM (I (openedE w_)) rfl <| sA (.slice none 0 0) rfl <| sA (I (openedE w_)) rfl <| s_nil ?_
   refine W.ret ?_
   have hr_ := M.e_pure hM
   obtain ⟨Bs_3, H⟩ := H.emptyE
   exact ⟨_, resE_tmp2 rfl, ⟨([]), (openedE w_), .slice none 0 0, Bs_3, hr_, rfl, H, (Sl.nil _)⟩⟩
  replace hM := M.e_f hM c4z
  simp only [qz1, qz2, qz3, qz4, qz5, qz6, ne_eq, qz7] at c4z
  refine W.skip <| sQ rfl <| sM (.slice none 0 0) rfl <| sA (.slice none 0 0) rfl <| sA (I 0) rfl <| s_nil ?_
  refine W.ret ?_
  have hr_ := M.e_pure hM
  obtain ⟨Bs_3, H⟩ := H.emptyE
  exact ⟨_, resE_tmp2 rfl, ⟨([]), 0, .slice none 0 0, Bs_3, hr_, rfl, H, (Sl.nil _)⟩⟩
 replace hM := M.e_t hM (by simpa using he_)
 obtain ⟨Bs_2, H2_, hs3z, hb_b_1⟩ := H.freshNB hn_ hs3z
 replace H : St w w1z [cRo Bs_2] R := H2_
 clear H2_ hn_
 have hl_hs3z := hs3z.len_le
 refine sM (.tuple #[Pz b_1, u2z, I 0]) rfl <| sX [Pz b_1, u2z, I 0] (Pz b_1) rfl rfl <| sX [Pz b_1, u2z, I 0] u2z rfl rfl <| sX [Pz b_1, u2z, I 0] (I 0) rfl rfl <| sA (Pz b_1) rfl <| sA u2z rfl <| sA (I 0) rfl <| s_nil <| W.seq <| sQ rfl <| sM (I 0) rfl ?_
 refine sC 0 0 ((0 : Int) != 0) rfl rfl rfl <| s_nil ?_
 refine W.cond ((0 : Int) != 0) rfl (fun c5z => ?_) (fun c5z => ?_)
 ·skip
  exact absurd c5z (by decide)
 skip
 replace hM := M.e_f hM c5z
 refine W.skip <| sQ rfl <| sM u2z rfl <| sA u2z rfl <| sA (I 0) rfl <| s_nil ?_
 refine W.ret ?_
 have hr_ := M.e_pure hM
 exact ⟨_, resE_tmp2 rfl, ⟨(orderP w_), 0, u2z, Bs_2, hr_, rfl, H, hs3z⟩⟩

def m_nilometerlaw13_span (lo : Int) (hi : Int) : M (Int × Int) :=
  M.pure (lo, hi)
theorem nilometerlaw13_span_ok {R : List Chunk}  (lo : Int) (hi : Int)  {r : (Int × Int)} (hM : (m_nilometerlaw13_span lo hi).Ends r) (w : World) (H : St w w [] R) : Ret Try.prog 55 #[I lo, I hi] w fun v w' => ∃ (y0 : Int) (y1 : Int), (y0, y1) = r ∧ v = .agg #[I y0, I y1] ∧ St w w' [] R := by
 refine ret_of_W Try.func55 rfl rfl rfl ?_
 refine sQ rfl ?_
 refine t_alloc (cs := [I 0, I 0]) H Al85 rfl ?_
 intro b_1 w1z H
 refine s_nil <| sQ rfl <| sM (I lo) rfl <| sM (I hi) rfl <| s_val (x_bld (ps := [(0, I lo), (1, I hi)]) (zs := [I 0, I 0]) (L' := [I lo, I hi]) rfl Try.underlying85 Al85 rfl (Bd85 Try.underlying85) (.cons (cs := [I lo]) rfl rfl rfl rfl rfl <| .cons (cs := [I hi]) rfl rfl rfl rfl rfl <| .nil)) ?_
 refine t_st (k := 0) (b := b_1) (off := 0) (cs := [I 0, I 0]) (vs := [I lo, I hi]) (cs' := [I lo, I hi]) (v := .agg #[I lo, I hi]) (L' := [cBlk b_1 [I lo, I hi] 85]) H rfl rfl rfl Sz85 rfl rfl rfl rfl rfl rfl ?_
 intro w2z H
 refine s_nil ?_
 refine W.ret ?_
 have hr_ := M.e_pure hM
 exact ⟨_, (resE_of1 (v := .agg #[I lo, I hi]) rfl (.cell (v := .agg #[I lo, I hi]) rfl (run_loadVar_ag (ds := [I lo, I hi]) Ag85 Sz85 (H.blk (k := 0) rfl) rfl rfl) <| .nil)), ⟨lo, hi, hr_, rfl, (H.pick [] (by decide) rfl)⟩⟩

def m_crew_in (n : Int) (least : Int) (greatest : Int) : M Bool :=
  M.pure ((decide (least ≤ n)) && (decide (n ≤ greatest)))
theorem crew_in_ok {R : List Chunk}  (n : Int) (least : Int) (greatest : Int)  {r : Bool} (hM : (m_crew_in n least greatest).Ends r) (w : World) (H : St w w [] R) : Ret Try.prog 151 #[I n, I least, I greatest] w fun v w' => ∃ (y0 : Bool), y0 = r ∧ v = B y0 ∧ St w w' [] R := by
 refine ret_of_W Try.func151 rfl rfl rfl ?_
 refine sQ rfl <| sA (B false) rfl <| s_nil <| sQ rfl <| sM (I n) rfl <| sM (I least) rfl <| sC n least (decide (least ≤ n)) rfl rfl rfl <| sM (B (decide (least ≤ n))) rfl <| g_val (decide (least ≤ n)) (gy_t rfl) (fun hg => x_mv (v := I n) rfl) <| g_val (decide (least ≤ n)) (gy_t rfl) (fun hg => x_mv (v := I greatest) rfl) ?_
 refine g_val (decide (least ≤ n)) (gy_t rfl) (fun hg => x_cmp (kd := .i64) (a := n) (b := greatest) (r := decide (n ≤ greatest)) (gd_of (c := decide (least ≤ n)) hg (I n)) (gd_of (c := decide (least ≤ n)) hg (I greatest)) rfl) <| s_val (x_pand (b := decide (least ≤ n)) (r := decide (n ≤ greatest)) rfl (fun hb => gd_of (c := decide (least ≤ n)) (by first | exact hb | (rw [hb]; rfl) | simp_all) (B (decide (n ≤ greatest)))) rfl) <| sA (B ((decide (least ≤ n)) && (decide (n ≤ greatest)))) rfl <| s_nil ?_
 refine W.ret ?_
 have hr_ := M.e_pure hM
 exact ⟨_, resE_tmp rfl, ⟨((decide (least ≤ n)) && (decide (n ≤ greatest))), hr_, rfl, H⟩⟩

def m_slices_IndexFunc_crew_Visit_b0 (s : List Visit) (f : Visit → M Bool) : Nat → M (Nat ⊕ (Int ⊕ Unit)) := fun s2 =>
  bif decide ((s2 : Int) < (s.length : Int)) then (
  M.grd (decide ((s2 : Int) < (s.length : Int))) <|
  M.bind (f (s.getD s2 default)) fun r2 =>
  bif r2 then (
  M.pure (.inr (.inl (s2 : Int))))
  else (
  M.pure (.inl (s2 + 1))))
  else (
  M.pure (.inr (.inr ())))
def m_slices_IndexFunc_crew_Visit (s : List Visit) (f : Visit → M Bool) : M Int :=
  M.bind (M.iter (m_slices_IndexFunc_crew_Visit_b0 s f) 0) fun x_ => match x_ with
  | (.inl s3) => (
  M.pure s3)
  | (.inr (_ : Unit)) => (
  M.pure (-1))
theorem slices_IndexFunc_crew_Visit_ok {R : List Chunk} {C_s : Cells} {v_s : Value} {v_f : Value} (s : List Visit) (f : Visit → M Bool) (hC_s : Reads R C_s) (hs_s : Sl C_s v_s s) (hf_f : FnM Try.prog R v_f f) {r : Int} (hM : (m_slices_IndexFunc_crew_Visit s f).Ends r) (w : World) (H : St w w [] R) : Ret Try.prog 199 #[v_s, v_f] w fun v w' => ∃ (y0 : Int), y0 = r ∧ v = I y0 ∧ St w w' [] R := by
 refine ret_of_W Try.func199 rfl rfl rfl ?_
 refine sQ rfl <| sA (I 0) rfl <| s_nil <| W.seq <| sQ rfl <| sM v_s rfl ?_
 have hl1z := (hs_s).len_le
 refine s_val (x_lenS T83.und rfl hs_s) <| sM (I 0) rfl <| s_nil <| W.block ?_
 obtain ⟨ex2z, hi3z, hk4z⟩ := M.e_bind hM
 obtain ⟨m0_, hi3z⟩ := M.e_iter hi3z
 refine W.loop (fun m σ W => ∃ (s2 : Nat) (ρ : Env), σ = upds ρ [(0, v_s), (1, v_f), (7, I (s.length : Int)), (8, I (s2 : Int))] ∧ M.iterN (m_slices_IndexFunc_crew_Visit_b0 s f) m s2 = some ex2z ∧ St w W [] R) ?_ ?_
 ·exact ⟨_, 0, _, upds_of _ _ ⟨rfl, rfl, rfl, rfl, trivial⟩, hi3z, H⟩
 rintro m7z σ w5z ⟨s2, ρ, rfl, hI6z, H⟩
 obtain ⟨m8z, lt9z, x10z, hM, hN11z⟩ := M.e_iterN hI6z
 simp only [m_slices_IndexFunc_crew_Visit_b0] at hM
 clear hI6z
 refine sQ rfl <| sC (s2 : Int) (s.length : Int) (decide ((s2 : Int) < (s.length : Int))) rfl rfl rfl <| s_nil <| W.seq ?_
 refine W.cond (decide ((s2 : Int) < (s.length : Int))) rfl (fun c12z => ?_) (fun c12z => ?_)
 ·replace hM := M.e_t hM c12z
  simp only [qz1, qz2, qz3, qz4, qz5, qz6, ne_eq, qz7] at c12z
  refine W.skip <| W.seq <| W.block <| sQ rfl <| sM (I (s2 : Int)) rfl <| sA (I (s2 : Int)) rfl <| s_nil <| sQ rfl <| sM v_f rfl <| sM v_s rfl ?_
  refine sM (I (s2 : Int)) rfl ?_
  obtain ⟨sd13z, hM⟩ := M.e_gd hM
  refine s_val (x_ix (a := v_s) (b := I (s2 : Int)) (v := vat v_s 6 (Int.toNat (s2 : Int))) rfl rfl (Sl.ix (α := Visit) T83.und T83.size hs_s (by omega) (by omega))) <| s_val (x_ld (p := vat v_s 6 (Int.toNat (s2 : Int))) (v := .agg #[I ((s.getD s2 default).wlo), I ((s.getD s2 default).whi), I ((s.getD s2 default).klo), I ((s.getD s2 default).khi), I ((s.getD s2 default).opn), I ((s.getD s2 default).cls)]) rfl (ld_ag Ag88 Sz88 (At.mono (Visit_atA hs_s (i := (s2 : Int)) (by omega) (by omega)) (hC_s.at H)))) ?_
  obtain ⟨r2, hx15z, hM⟩ := M.e_bind hM
  refine t_callM H hf_f rfl rfl (s.getD s2 default) Reads.none ⟨_, rfl, rfl⟩ hx15z ?_
  intro w14z H
  refine s_nil ?_
  refine W.cond r2 rfl (fun c16z => ?_) (fun c16z => ?_)
  ·replace hM := M.e_t hM c16z
   refine sQ rfl <| sM (I (s2 : Int)) rfl <| sA (I (s2 : Int)) rfl <| s_nil ?_
   refine W.ret ?_
   have hX17z := M.e_inr hM hN11z
   subst hX17z
   replace hM := hk4z
   try dsimp only at hM
   have hr_ := M.e_pure hM
   exact ⟨_, resE_tmp rfl, ⟨(s2 : Int), hr_, rfl, H⟩⟩
  replace hM := M.e_f hM c16z
  refine W.skip <| W.region rfl <| sR (s2 : Int) 1 ((s2 : Int) + 1) rfl rfl rfl (by omega) <| sM (I ((s2 : Int) + 1)) rfl <| s_nil ?_
  exact ⟨m8z, lt9z, s2 + 1, _, upds_of _ _ ⟨rfl, rfl, rfl, rfl, trivial⟩, M.e_inl hM hN11z, H⟩
 replace hM := M.e_f hM c12z
 simp only [qz1, qz2, qz3, qz4, qz5, qz6, ne_eq, qz7] at c12z
 refine W.exit ?_
 have hX18z := M.e_inr hM hN11z
 subst hX18z
 replace hM := hk4z
 try dsimp only at hM
 refine sQ rfl <| sA (I (-1)) rfl <| s_nil ?_
 refine W.ret ?_
 have hr_ := M.e_pure hM
 exact ⟨_, resE_tmp rfl, ⟨(-1), hr_, rfl, H⟩⟩

def m_slices_ContainsFunc_crew_Visit (s : List Visit) (f : Visit → M Bool) : M Bool :=
  M.bind (m_slices_IndexFunc_crew_Visit s f) fun r2 =>
  M.pure (decide (0 ≤ r2))
theorem slices_ContainsFunc_crew_Visit_ok {R : List Chunk} {C_s : Cells} {v_s : Value} {v_f : Value} (s : List Visit) (f : Visit → M Bool) (hC_s : Reads R C_s) (hs_s : Sl C_s v_s s) (hf_f : FnM Try.prog R v_f f) {r : Bool} (hM : (m_slices_ContainsFunc_crew_Visit s f).Ends r) (w : World) (H : St w w [] R) : Ret Try.prog 183 #[v_s, v_f] w fun v w' => ∃ (y0 : Bool), y0 = r ∧ v = B y0 ∧ St w w' [] R := by
 refine ret_of_W Try.func183 rfl rfl rfl ?_
 refine sQ rfl <| sA (B false) rfl <| s_nil <| sQ rfl <| sM v_s rfl <| sM v_f rfl ?_
 obtain ⟨r2z, hx1z, hM⟩ := M.e_bind hM
 refine s_call cf199 [v_s, v_f] rfl (slices_IndexFunc_crew_Visit_ok s f (hC_s.app _) hs_s (hf_f.app _) hx1z _ (St.give (T := []) H rfl)) ?_
 rintro vq w3z ⟨r2, hr4z, hvq, H2_⟩
 subst hr4z
 subst vq
 try dsimp only at hM
 replace H : St w w3z [] R := H.back H2_ rfl
 clear H2_
 refine sC r2 0 (decide (0 ≤ r2)) rfl rfl rfl <| sA (B (decide (0 ≤ r2))) rfl <| s_nil ?_
 refine W.ret ?_
 have hr_ := M.e_pure hM
 exact ⟨_, resE_tmp rfl, ⟨(decide (0 ≤ r2)), hr_, rfl, H⟩⟩

def m_crew_every_crew_Visit__1 (x : Visit) (k02 : Visit → M Bool) : M Bool :=
  M.bind (k02 x) fun r2 =>
  M.pure (!r2)
theorem crew_every_crew_Visit__1_ok {R : List Chunk} {b_k0 : Nat} {v_k02 : Value} (x : Visit) (k02 : Visit → M Bool) (hf_k02 : FnM Try.prog R v_k02 k02) (h_b_k0 : Has R (cBlk b_k0 [v_k02] 214)) {r : Bool} (hM : (m_crew_every_crew_Visit__1 x k02).Ends r) (w : World) (H : St w w [] R) : Ret Try.prog 184 #[.agg #[I x.wlo, I x.whi, I x.klo, I x.khi, I x.opn, I x.cls], Pz b_k0] w fun v w' => ∃ (y0 : Bool), y0 = r ∧ v = B y0 ∧ St w w' [] R := by
 refine ret_of_W Try.func184 rfl rfl rfl ?_
 refine sQ rfl ?_
 refine t_box (v := .agg #[I x.wlo, I x.whi, I x.klo, I x.khi, I x.opn, I x.cls]) (cs := [I x.wlo, I x.whi, I x.klo, I x.khi, I x.opn, I x.cls]) H rfl rfl ?_
 intro b_1 w1z H
 refine sA (B false) rfl <| s_nil <| sQ rfl <| s_val (x_ld (p := Pz b_k0) (v := v_k02) rfl (ldb_sc Sc214 (h_b_k0.blk H) rfl)) <| s_val (x_ld (p := Pz b_1) (v := .agg #[I x.wlo, I x.whi, I x.klo, I x.khi, I x.opn, I x.cls]) rfl (ldb_ag (ds := [I x.wlo, I x.whi, I x.klo, I x.khi, I x.opn, I x.cls]) Ag88 Sz88 (H.blk (k := 0) rfl) rfl rfl)) ?_
 obtain ⟨r2, hx3z, hM⟩ := M.e_bind hM
 refine t_callM H hf_k02 rfl rfl x Reads.none ⟨_, rfl, rfl⟩ hx3z ?_
 intro w2z H
 refine s_val (x_not (b := r2) rfl) <| sA (B (!r2)) rfl <| s_nil ?_
 refine W.ret ?_
 have hr_ := M.e_pure hM
 exact ⟨_, resE_tmp rfl, ⟨(!r2), hr_, rfl, (H.pick [] (by decide) rfl)⟩⟩

def m_crew_every_crew_Visit (l : List Visit) (so : Visit → M Bool) : M Bool :=
  M.bind (m_slices_ContainsFunc_crew_Visit l (fun xqz => m_crew_every_crew_Visit__1 xqz so)) fun r2 =>
  M.pure (!r2)
theorem crew_every_crew_Visit_ok {R : List Chunk} {C_l : Cells} {v_l : Value} {v_so : Value} (l : List Visit) (so : Visit → M Bool) (hC_l : Reads R C_l) (hs_l : Sl C_l v_l l) (hf_so : FnM Try.prog R v_so so) {r : Bool} (hM : (m_crew_every_crew_Visit l so).Ends r) (w : World) (H : St w w [] R) : Ret Try.prog 152 #[v_l, v_so] w fun v w' => ∃ (y0 : Bool), y0 = r ∧ v = B y0 ∧ St w w' [] R := by
 refine ret_of_W Try.func152 rfl rfl rfl ?_
 refine sQ rfl ?_
 refine t_box (v := v_so) (cs := [v_so]) H rfl (FnM.cells hf_so) ?_
 intro b_1 w1z H
 refine sA (B false) rfl <| s_nil <| sQ rfl <| sM v_l rfl <| s_val (x_mf (fs := []) (cs := [Pz b_1]) rfl rfl) ?_
 obtain ⟨r3z, hx2z, hM⟩ := M.e_bind hM
 refine s_call cf183 [v_l, .func (.func 184) #[] #[Pz b_1]] rfl (slices_ContainsFunc_crew_Visit_ok l (fun xqz => m_crew_every_crew_Visit__1 xqz so) (hC_l.app _) hs_l ⟨184, [Pz b_1], rfl, cf184, fun wqz Lqz Cqz vqz xqz bqz hsqz hCqz hAqz hpqz => by obtain rfl := Visit_arg hAqz; exact (crew_every_crew_Visit__1_ok xqz so (FnM.app (hf_so.app _) _) (Has.app (Has.here (k := 0) rfl) _) hpqz wqz (St.refl hsqz)).mono fun vqz wqz ⟨yqz, hrqz, hvqz, Hqz⟩ => by subst hrqz; exact ⟨hvqz, Hqz⟩⟩ hx2z _ (St.give (T := [cBlk b_1 [v_so] 214]) H rfl)) ?_
 rintro vq w4z ⟨r2, hr5z, hvq, H2_⟩
 subst hr5z
 subst vq
 try dsimp only at hM
 replace H : St w w4z [cBlk b_1 [v_so] 214] R := H.back H2_ rfl
 clear H2_
 refine s_val (x_not (b := r2) rfl) <| sA (B (!r2)) rfl <| s_nil ?_
 refine W.ret ?_
 have hr_ := M.e_pure hM
 exact ⟨_, resE_tmp rfl, ⟨(!r2), hr_, rfl, (H.pick [] (by decide) rfl)⟩⟩

def m_crew_minute (n : Int) : M Bool :=
  M.bind (m_crew_in n 0 100000) fun r2 =>
  M.pure r2
theorem crew_minute_ok {R : List Chunk}  (n : Int)  {r : Bool} (hM : (m_crew_minute n).Ends r) (w : World) (H : St w w [] R) : Ret Try.prog 112 #[I n] w fun v w' => ∃ (y0 : Bool), y0 = r ∧ v = B y0 ∧ St w w' [] R := by
 refine ret_of_W Try.func112 rfl rfl rfl ?_
 refine sQ rfl <| sA (B false) rfl <| s_nil <| sQ rfl <| sM (I n) rfl ?_
 obtain ⟨r2z, hx1z, hM⟩ := M.e_bind hM
 refine s_call cf151 [I n, I 0, I 100000] rfl (crew_in_ok n 0 100000 hx1z _ (St.give (T := []) H rfl)) ?_
 rintro vq w3z ⟨r2, hr4z, hvq, H2_⟩
 subst hr4z
 subst vq
 try dsimp only at hM
 replace H : St w w3z [] R := H.back H2_ rfl
 clear H2_
 refine sA (B r2) rfl <| s_nil ?_
 refine W.ret ?_
 have hr_ := M.e_pure hM
 exact ⟨_, resE_tmp rfl, ⟨r2, hr_, rfl, H⟩⟩

def m_crew_minutes (s : Span) : M Bool :=
  M.bind (m_crew_in s.lo 0 s.hi) fun r2 =>
  M.bind (M.opt r2 (m_crew_minute s.hi) false) fun r3 =>
  M.pure (r2 && r3)
theorem crew_minutes_ok {R : List Chunk}  (s : Span)  {r : Bool} (hM : (m_crew_minutes s).Ends r) (w : World) (H : St w w [] R) : Ret Try.prog 154 #[.agg #[I s.lo, I s.hi]] w fun v w' => ∃ (y0 : Bool), y0 = r ∧ v = B y0 ∧ St w w' [] R := by
 refine ret_of_W Try.func154 rfl rfl rfl ?_
 refine sQ rfl ?_
 refine t_box (v := .agg #[I s.lo, I s.hi]) (cs := [I s.lo, I s.hi]) H rfl rfl ?_
 intro b_1 w1z H
 refine sA (B false) rfl <| s_nil <| sQ rfl <| s_val (x_fa (a := Pz b_1) (v := Pz b_1) rfl (fa_blk (o := 0) Fd85_0 Sz3)) <| s_val (x_ld (p := Pz b_1) (v := I s.lo) rfl (ldb_sc Sc3 (H.blk (k := 0) rfl) rfl)) <| s_val (x_fa (a := Pz b_1) (v := Oz b_1 1) rfl (fa_blk (o := 0) Fd85_1 Sz3)) <| s_val (x_ld (p := Oz b_1 1) (v := I s.hi) rfl (ldb_sc Sc3 (H.blk (k := 0) rfl) rfl)) ?_
 obtain ⟨r3z, hx2z, hM⟩ := M.e_bind hM
 refine s_call cf151 [I s.lo, I 0, I s.hi] rfl (crew_in_ok s.lo 0 s.hi hx2z _ (St.give (T := [cBlk b_1 [I s.lo, I s.hi] 85]) H rfl)) ?_
 rintro vq w4z ⟨r2, hr5z, hvq, H2_⟩
 subst hr5z
 subst vq
 try dsimp only at hM
 replace H : St w w4z [cBlk b_1 [I s.lo, I s.hi] 85] R := H.back H2_ rfl
 clear H2_
 refine sM (B r2) rfl <| g_val r2 (gy_t rfl) (fun hg => x_fa (a := Pz b_1) (v := Oz b_1 1) rfl (fa_blk (o := 0) Fd85_1 Sz3)) <| g_val r2 (gy_t rfl) (fun hg => x_ld (p := Oz b_1 1) (v := I s.hi) (gd_of (c := r2) hg (Oz b_1 1)) (ldb_sc Sc3 (H.blk (k := 0) rfl) rfl)) ?_
 obtain ⟨r3, hx6z, hM⟩ := M.e_bind hM
 refine t_gcall r2 (gy_t rfl) cf112 (B r3) (fun _ => [I s.hi]) (fun hg => lst1 (gd_of (c := r2) hg (I s.hi))) H (fun hg => (crew_minute_ok s.hi (M.e_opt hx6z hg) _ (H.give (A := []) rfl)).mono fun v_ w_ ⟨y_, hr_, hv_, H_⟩ => by subst hr_; exact ⟨hv_, H.via H_⟩) ?_
 intro w7z H
 refine s_val (x_pand (b := r2) (r := r3) rfl (fun hb => gd_of (c := r2) (by first | exact hb | (rw [hb]; rfl) | simp_all) (B r3)) rfl) <| sA (B (r2 && r3)) rfl <| s_nil ?_
 refine W.ret ?_
 have hr_ := M.e_pure hM
 exact ⟨_, resE_tmp rfl, ⟨(r2 && r3), hr_, rfl, (H.pick [] (by decide) rfl)⟩⟩

def m_crew_rounded_1 (v : Visit) : M Bool :=
  M.bind (m_crew_minutes (⟨(v.wlo : Int), (v.whi : Int)⟩ : Span)) fun r2 =>
  M.bind (M.opt r2 (m_crew_minutes (⟨(v.klo : Int), (v.khi : Int)⟩ : Span)) false) fun r3 =>
  M.bind (M.opt (r2 && r3) (m_crew_in v.opn 0 v.cls) false) fun r4 =>
  M.bind (M.opt ((r2 && r3) && r4) (m_crew_minute v.cls) false) fun r5 =>
  M.pure (((r2 && r3) && r4) && r5)
theorem crew_rounded_1_ok {R : List Chunk}  (v : Visit)  {r : Bool} (hM : (m_crew_rounded_1 v).Ends r) (w : World) (H : St w w [] R) : Ret Try.prog 153 #[.agg #[I v.wlo, I v.whi, I v.klo, I v.khi, I v.opn, I v.cls]] w fun v w' => ∃ (y0 : Bool), y0 = r ∧ v = B y0 ∧ St w w' [] R := by
 refine ret_of_W Try.func153 rfl rfl rfl ?_
 refine sQ rfl ?_
 refine t_box (v := .agg #[I v.wlo, I v.whi, I v.klo, I v.khi, I v.opn, I v.cls]) (cs := [I v.wlo, I v.whi, I v.klo, I v.khi, I v.opn, I v.cls]) H rfl rfl ?_
 intro b_1 w1z H
 refine sA (B false) rfl <| s_nil <| sQ rfl <| s_val (x_fa (a := Pz b_1) (v := Pz b_1) rfl (fa_blk (o := 0) Fd88_0 Sz85)) <| s_val (x_ld (p := Pz b_1) (v := .agg #[I v.wlo, I v.whi]) rfl (ldb_ag (ds := [I v.wlo, I v.whi]) Ag85 Sz85 (H.blk (k := 0) rfl) rfl rfl)) ?_
 obtain ⟨r3z, hx2z, hM⟩ := M.e_bind hM
 refine s_call cf154 [.agg #[I v.wlo, I v.whi]] rfl (crew_minutes_ok (⟨(v.wlo : Int), (v.whi : Int)⟩ : Span) hx2z _ (St.give (T := [cBlk b_1 [I v.wlo, I v.whi, I v.klo, I v.khi, I v.opn, I v.cls] 88]) H rfl)) ?_
 rintro vq w4z ⟨r2, hr5z, hvq, H2_⟩
 subst hr5z
 subst vq
 try dsimp only at hM
 replace H : St w w4z [cBlk b_1 [I v.wlo, I v.whi, I v.klo, I v.khi, I v.opn, I v.cls] 88] R := H.back H2_ rfl
 clear H2_
 refine sM (B r2) rfl <| g_val r2 (gy_t rfl) (fun hg => x_fa (a := Pz b_1) (v := Oz b_1 2) rfl (fa_blk (o := 0) Fd88_1 Sz85)) <| g_val r2 (gy_t rfl) (fun hg => x_ld (p := Oz b_1 2) (v := .agg #[I v.klo, I v.khi]) (gd_of (c := r2) hg (Oz b_1 2)) (ldb_ag (ds := [I v.klo, I v.khi]) Ag85 Sz85 (H.blk (k := 0) rfl) rfl rfl)) ?_
 obtain ⟨r3, hx6z, hM⟩ := M.e_bind hM
 refine t_gcall r2 (gy_t rfl) cf154 (B r3) (fun _ => [.agg #[I v.klo, I v.khi]]) (fun hg => lst1 (gd_of (c := r2) hg (.agg #[I v.klo, I v.khi]))) H (fun hg => (crew_minutes_ok (⟨(v.klo : Int), (v.khi : Int)⟩ : Span) (M.e_opt hx6z hg) _ (H.give (A := []) rfl)).mono fun v_ w_ ⟨y_, hr_, hv_, H_⟩ => by subst hr_; exact ⟨hv_, H.via H_⟩) ?_
 intro w7z H
 refine s_val (x_pand (b := r2) (r := r3) rfl (fun hb => gd_of (c := r2) (by first | exact hb | (rw [hb]; rfl) | simp_all) (B r3)) rfl) <| sM (B (r2 && r3)) rfl <| g_val (r2 && r3) (gy_t rfl) (fun hg => x_fa (a := Pz b_1) (v := Oz b_1 4) rfl (fa_blk (o := 0) Fd88_2 Sz3)) <| g_val (r2 && r3) (gy_t rfl) (fun hg => x_ld (p := Oz b_1 4) (v := I v.opn) (gd_of (c := (r2 && r3)) hg (Oz b_1 4)) (ldb_sc Sc3 (H.blk (k := 0) rfl) rfl)) <| g_val (r2 && r3) (gy_t rfl) (fun hg => x_fa (a := Pz b_1) (v := Oz b_1 5) rfl (fa_blk (o := 0) Fd88_3 Sz3)) <| g_val (r2 && r3) (gy_t rfl) (fun hg => x_ld (p := Oz b_1 5) (v := I v.cls) (gd_of (c := (r2 && r3)) hg (Oz b_1 5)) (ldb_sc Sc3 (H.blk (k := 0) rfl) rfl)) ?_
 obtain ⟨r4, hx8z, hM⟩ := M.e_bind hM
 refine t_gcall (r2 && r3) (gy_t rfl) cf151 (B r4) (fun _ => [I v.opn, I 0, I v.cls]) (fun hg => lst3 (gd_of (c := (r2 && r3)) hg (I v.opn)) rfl (gd_of (c := (r2 && r3)) hg (I v.cls))) H (fun hg => (crew_in_ok v.opn 0 v.cls (M.e_opt hx8z hg) _ (H.give (A := []) rfl)).mono fun v_ w_ ⟨y_, hr_, hv_, H_⟩ => by subst hr_; exact ⟨hv_, H.via H_⟩) ?_
 intro w9z H
 refine s_val (x_pand (b := (r2 && r3)) (r := r4) rfl (fun hb => gd_of (c := (r2 && r3)) (by first | exact hb | (rw [hb]; rfl) | simp_all) (B r4)) rfl) <| sM (B ((r2 && r3) && r4)) rfl <| g_val ((r2 && r3) && r4) (gy_t rfl) (fun hg => x_fa (a := Pz b_1) (v := Oz b_1 5) rfl (fa_blk (o := 0) Fd88_3 Sz3)) <| g_val ((r2 && r3) && r4) (gy_t rfl) (fun hg => x_ld (p := Oz b_1 5) (v := I v.cls) (gd_of (c := ((r2 && r3) && r4)) hg (Oz b_1 5)) (ldb_sc Sc3 (H.blk (k := 0) rfl) rfl)) ?_
 obtain ⟨r5, hx10z, hM⟩ := M.e_bind hM
 refine t_gcall ((r2 && r3) && r4) (gy_t rfl) cf112 (B r5) (fun _ => [I v.cls]) (fun hg => lst1 (gd_of (c := ((r2 && r3) && r4)) hg (I v.cls))) H (fun hg => (crew_minute_ok v.cls (M.e_opt hx10z hg) _ (H.give (A := []) rfl)).mono fun v_ w_ ⟨y_, hr_, hv_, H_⟩ => by subst hr_; exact ⟨hv_, H.via H_⟩) ?_
 intro w11z H
 refine s_val (x_pand (b := ((r2 && r3) && r4)) (r := r5) rfl (fun hb => gd_of (c := ((r2 && r3) && r4)) (by first | exact hb | (rw [hb]; rfl) | simp_all) (B r5)) rfl) <| sA (B (((r2 && r3) && r4) && r5)) rfl <| s_nil ?_
 refine W.ret ?_
 have hr_ := M.e_pure hM
 exact ⟨_, resE_tmp rfl, ⟨(((r2 && r3) && r4) && r5), hr_, rfl, (H.pick [] (by decide) rfl)⟩⟩

def m_crew_rounded (l : List Visit) : M Int :=
  M.bind (m_crew_in (l.length : Int) 1 20) fun r2 =>
  bif !r2 then (
  M.pure 3)
  else (
  M.bind (m_crew_every_crew_Visit l (fun xqz => m_crew_rounded_1 xqz)) fun r3 =>
  bif !r3 then (
  M.pure 120)
  else (
  M.pure 0))
theorem crew_rounded_ok {R : List Chunk} {C_l : Cells} {v_l : Value} (l : List Visit) (hC_l : Reads R C_l) (hs_l : Sl C_l v_l l) {r : Int} (hM : (m_crew_rounded l).Ends r) (w : World) (H : St w w [] R) : Ret Try.prog 111 #[v_l] w fun v w' => ∃ (y0 : Int), y0 = r ∧ v = I y0 ∧ St w w' [] R := by
 refine ret_of_W Try.func111 rfl rfl rfl ?_
 refine sQ rfl <| sA (I 0) rfl <| s_nil <| W.seq <| W.block <| sQ rfl <| sM v_l rfl ?_
 have hl1z := (hs_l).len_le
 refine s_val (x_lenS T83.und rfl hs_l) ?_
 obtain ⟨r3z, hx2z, hM⟩ := M.e_bind hM
 refine s_call cf151 [I (l.length : Int), I 1, I 20] rfl (crew_in_ok (l.length : Int) 1 20 hx2z _ (St.give (T := []) H rfl)) ?_
 rintro vq w4z ⟨r2, hr5z, hvq, H2_⟩
 subst hr5z
 subst vq
 try dsimp only at hM
 replace H : St w w4z [] R := H.back H2_ rfl
 clear H2_
 refine s_val (x_not (b := r2) rfl) <| sA (B (!r2)) rfl <| s_nil ?_
 refine W.cond (!r2) rfl (fun c6z => ?_) (fun c6z => ?_)
 ·replace hM := M.e_t hM c6z
  refine sQ rfl <| sA (I 3) rfl <| s_nil ?_
  refine W.ret ?_
  have hr_ := M.e_pure hM
  exact ⟨_, resE_tmp rfl, ⟨3, hr_, rfl, H⟩⟩
 replace hM := M.e_f hM c6z
 refine sQ rfl <| sM v_l rfl ?_
 obtain ⟨r8z, hx7z, hM⟩ := M.e_bind hM
 refine s_call cf152 [v_l, .func (.func 153) #[] #[]] rfl (crew_every_crew_Visit_ok l (fun xqz => m_crew_rounded_1 xqz) (hC_l.app _) hs_l ⟨153, [], rfl, cf153, fun wqz Lqz Cqz vqz xqz bqz hsqz hCqz hAqz hpqz => by obtain rfl := Visit_arg hAqz; exact (crew_rounded_1_ok xqz hpqz wqz (St.refl hsqz)).mono fun vqz wqz ⟨yqz, hrqz, hvqz, Hqz⟩ => by subst hrqz; exact ⟨hvqz, Hqz⟩⟩ hx7z _ (St.give (T := []) H rfl)) ?_
 rintro vq w9z ⟨r3, hr10z, hvq, H2_⟩
 subst hr10z
 subst vq
 try dsimp only at hM
 replace H : St w w9z [] R := H.back H2_ rfl
 clear H2_
 refine s_val (x_not (b := r3) rfl) <| sA (B (!r3)) rfl <| s_nil ?_
 refine W.cond (!r3) rfl (fun c11z => ?_) (fun c11z => ?_)
 ·replace hM := M.e_t hM c11z
  refine sQ rfl <| sA (I 120) rfl <| s_nil ?_
  refine W.ret ?_
  have hr_ := M.e_pure hM
  exact ⟨_, resE_tmp rfl, ⟨120, hr_, rfl, H⟩⟩
 replace hM := M.e_f hM c11z
 refine W.skip <| sQ rfl <| sA (I 0) rfl <| s_nil ?_
 refine W.ret ?_
 have hr_ := M.e_pure hM
 exact ⟨_, resE_tmp rfl, ⟨0, hr_, rfl, H⟩⟩

def m_crew_low : M Unit :=
  M.pure ()
theorem crew_low_ok {R : List Chunk}    {r : Unit} (hM : (m_crew_low).Ends r) (w : World) (H : St w w [] R) : Ret Try.prog 114 #[] w fun v w' => () = r ∧ v = .agg #[.func (.func 155) #[] #[]] ∧ St w w' [] R := by
 refine ret_of_W Try.func114 rfl rfl rfl ?_
 refine sQ rfl ?_
 refine t_alloc (cs := [.nilFunc]) H Al167 rfl ?_
 intro b_1 w1z H
 refine s_nil <| sQ rfl <| s_val (x_bld (ps := [(0, .func (.func 155) #[] #[])]) (zs := [.nilFunc]) (L' := [.func (.func 155) #[] #[]]) rfl Try.underlying167 Al167 rfl (Bd167 Try.underlying167) (.cons (cs := [.func (.func 155) #[] #[]]) rfl rfl rfl rfl rfl <| .nil)) ?_
 refine t_st (k := 0) (b := b_1) (off := 0) (cs := [.nilFunc]) (vs := [.func (.func 155) #[] #[]]) (cs' := [.func (.func 155) #[] #[]]) (v := .agg #[.func (.func 155) #[] #[]]) (L' := [cBlk b_1 [.func (.func 155) #[] #[]] 167]) H rfl rfl rfl Sz167 rfl rfl rfl rfl rfl rfl ?_
 intro w2z H
 refine s_nil ?_
 refine W.ret ?_
 have hr_ := M.e_pure hM
 exact ⟨_, (resE_of1 (v := .agg #[.func (.func 155) #[] #[]]) rfl (.cell (v := .agg #[.func (.func 155) #[] #[]]) rfl (run_loadVar_ag (ds := [.func (.func 155) #[] #[]]) Ag167 Sz167 (H.blk (k := 0) rfl) rfl rfl) <| .nil)), ⟨hr_, rfl, (H.pick [] (by decide) rfl)⟩⟩

def m_crew_low_1 (s : Span) : M Int :=
  M.pure s.lo
theorem crew_low_1_ok {R : List Chunk}  (s : Span)  {r : Int} (hM : (m_crew_low_1 s).Ends r) (w : World) (H : St w w [] R) : Ret Try.prog 155 #[.agg #[I s.lo, I s.hi]] w fun v w' => ∃ (y0 : Int), y0 = r ∧ v = I y0 ∧ St w w' [] R := by
 refine ret_of_W Try.func155 rfl rfl rfl ?_
 refine sQ rfl ?_
 refine t_box (v := .agg #[I s.lo, I s.hi]) (cs := [I s.lo, I s.hi]) H rfl rfl ?_
 intro b_1 w1z H
 refine sA (I 0) rfl <| s_nil <| sQ rfl <| s_val (x_fa (a := Pz b_1) (v := Pz b_1) rfl (fa_blk (o := 0) Fd85_0 Sz3)) <| s_val (x_ld (p := Pz b_1) (v := I s.lo) rfl (ldb_sc Sc3 (H.blk (k := 0) rfl) rfl)) <| sA (I s.lo) rfl <| s_nil ?_
 refine W.ret ?_
 have hr_ := M.e_pure hM
 exact ⟨_, resE_tmp rfl, ⟨s.lo, hr_, rfl, (H.pick [] (by decide) rfl)⟩⟩

def m_crew_begins_155_b0 (l : List Visit) : (Int × Nat × (List Int)) → M ((Int × Nat × (List Int)) ⊕ ((List Int) × (List Int))) := fun (start2, s, l2) =>
  bif decide ((s : Int) < (l.length : Int)) then (
  M.grd (decide ((s : Int) < (l.length : Int))) <|
  M.bind (m_crew_low_1 (⟨((l.getD s default).wlo : Int), ((l.getD s default).whi : Int)⟩ : Span)) fun r2 =>
  M.grd (decide ((-9223372036854775808 : Int) ≤ (start2 + r2)) && decide ((start2 + r2) ≤ (9223372036854775807 : Int))) <|
  M.grd (decide ((l2.length + ([(max (start2 + r2) ((l.getD s default).opn) : Int)]).length) * 8 ≤ 140737488355328)) <|
  M.bind (m_crew_low_1 (⟨((l.getD s default).klo : Int), ((l.getD s default).khi : Int)⟩ : Span)) fun r3 =>
  M.grd (decide ((-9223372036854775808 : Int) ≤ ((max (start2 + r2) ((l.getD s default).opn)) + r3)) && decide (((max (start2 + r2) ((l.getD s default).opn)) + r3) ≤ (9223372036854775807 : Int))) <|
  M.pure (.inl ((max (start2 + r2) ((l.getD s default).opn)) + r3, s + 1, l2 ++ ([(max (start2 + r2) ((l.getD s default).opn) : Int)]))))
  else (
  M.pure (.inr (l2, l2)))
def m_crew_begins_155 (start : Int) (l : List Visit) : M (List Int) :=
  M.bind (M.iter (m_crew_begins_155_b0 l) (start, 0, [])) fun (l3, l4) =>
  M.pure l4
theorem crew_begins_155_ok {R : List Chunk} {C_l : Cells} {v_l : Value} (start : Int) (l : List Visit) (hC_l : Reads R C_l) (hs_l : Sl C_l v_l l) {r : (List Int)} (hM : (m_crew_begins_155 start l).Ends r) (w : World) (H : St w w [] R) : Ret Try.prog 113 #[I start, v_l, .agg #[.func (.func 155) #[] #[]]] w fun v w' => ∃ (y0 : List Int) (u0 : Value), y0 = r ∧ v = u0 ∧ St w w' [cOwn (α := Int) 3 u0 y0] R := by
 refine ret_of_W Try.func113 rfl rfl rfl ?_
 refine sQ rfl ?_
 refine t_box (v := .agg #[.func (.func 155) #[] #[]]) (cs := [.func (.func 155) #[] #[]]) H rfl rfl ?_
 intro b_1 w1z H
 refine sA (.slice none 0 0) rfl <| s_nil <| sQ rfl <| sA (.slice none 0 0) rfl <| s_nil <| W.seq <| sQ rfl <| sM v_l rfl ?_
 have hl2z := (hs_l).len_le
 refine s_val (x_lenS T83.und rfl hs_l) <| sM (I 0) rfl <| s_nil <| W.block ?_
 replace H : St w w1z [cOwn (α := Int) 3 (.slice none 0 0) ([]), cBlk b_1 [.func (.func 155) #[] #[]] 167] R := H.nilOwn (α := Int) 3
 obtain ⟨ex3z, hi4z, hk5z⟩ := M.e_bind hM
 obtain ⟨m0_, hi4z⟩ := M.e_iter hi4z
 refine W.loop (fun m σ W => ∃ (start2 : Int) (s : Nat) (l2 : List Int) (v_l2 : Value) (ρ : Env), σ = upds ρ [(0, I start2), (5, Pz b_1), (7, v_l2), (11, v_l), (12, I (l.length : Int)), (13, I (s : Int))] ∧ M.iterN (m_crew_begins_155_b0 l) m (start2, s, l2) = some ex3z ∧ St w W [cOwn (α := Int) 3 v_l2 l2, cBlk b_1 [.func (.func 155) #[] #[]] 167] R) ?_ ?_
 ·exact ⟨_, start, 0, [], (.slice none 0 0), _, upds_of _ _ ⟨rfl, rfl, rfl, rfl, rfl, rfl, trivial⟩, hi4z, H⟩
 rintro m8z σ w6z ⟨start2, s, l2, v_l2, ρ, rfl, hI7z, H⟩
 obtain ⟨m9z, lt10z, x11z, hM, hN12z⟩ := M.e_iterN hI7z
 simp only [m_crew_begins_155_b0] at hM
 clear hI7z
 refine sQ rfl <| sC (s : Int) (l.length : Int) (decide ((s : Int) < (l.length : Int))) rfl rfl rfl <| s_nil <| W.seq ?_
 refine W.cond (decide ((s : Int) < (l.length : Int))) rfl (fun c13z => ?_) (fun c13z => ?_)
 ·replace hM := M.e_t hM c13z
  simp only [qz1, qz2, qz3, qz4, qz5, qz6, ne_eq, qz7] at c13z
  refine W.skip <| W.seq <| W.block <| sQ rfl ?_
  obtain ⟨sd14z, hM⟩ := M.e_gd hM
  refine s_val (x_ix (a := v_l) (b := I (s : Int)) (v := vat v_l 6 (Int.toNat (s : Int))) rfl rfl (Sl.ix (α := Visit) T83.und T83.size hs_l (by omega) (by omega))) <| s_val (x_ld (p := vat v_l 6 (Int.toNat (s : Int))) (v := .agg #[I ((l.getD s default).wlo), I ((l.getD s default).whi), I ((l.getD s default).klo), I ((l.getD s default).khi), I ((l.getD s default).opn), I ((l.getD s default).cls)]) rfl (ld_ag Ag88 Sz88 (At.mono (Visit_atA hs_l (i := (s : Int)) (by omega) (by omega)) (hC_l.at H)))) ?_
  refine t_alloc (cs := [I 0, I 0, I 0, I 0, I 0, I 0]) H Al88 rfl ?_
  intro b_2 w15z H
  refine t_st (k := 0) (b := b_2) (off := 0) (cs := [I 0, I 0, I 0, I 0, I 0, I 0]) (vs := [I ((l.getD s default).wlo), I ((l.getD s default).whi), I ((l.getD s default).klo), I ((l.getD s default).khi), I ((l.getD s default).opn), I ((l.getD s default).cls)]) (cs' := [I ((l.getD s default).wlo), I ((l.getD s default).whi), I ((l.getD s default).klo), I ((l.getD s default).khi), I ((l.getD s default).opn), I ((l.getD s default).cls)]) (v := .agg #[I ((l.getD s default).wlo), I ((l.getD s default).whi), I ((l.getD s default).klo), I ((l.getD s default).khi), I ((l.getD s default).opn), I ((l.getD s default).cls)]) (L' := [cBlk b_2 [I ((l.getD s default).wlo), I ((l.getD s default).whi), I ((l.getD s default).klo), I ((l.getD s default).khi), I ((l.getD s default).opn), I ((l.getD s default).cls)] 88, cOwn (α := Int) 3 v_l2 l2, cBlk b_1 [.func (.func 155) #[] #[]] 167]) H rfl rfl rfl Sz88 rfl rfl rfl rfl rfl rfl ?_
  intro w16z H
  refine s_nil <| W.seq ?_
  refine W.draw (fun W => St w W [cBlk b_2 [I ((l.getD s default).wlo), I ((l.getD s default).whi), I ((l.getD s default).klo), I ((l.getD s default).khi), I ((l.getD s default).opn), I ((l.getD s default).cls)] 88, cOwn (α := Int) 3 v_l2 l2, cBlk b_1 [.func (.func 155) #[] #[]] 167] R) [(0, true), (1, true), (2, true), (3, true), (4, true), (7, true), (8, true), (5, false), (6, true), (9, true), (10, true)] mixed (by decide +kernel) rfl ?_
  intro w17z hx_
  replace H : St w w17z [cBlk b_2 [I ((l.getD s default).wlo), I ((l.getD s default).whi), I ((l.getD s default).klo), I ((l.getD s default).khi), I ((l.getD s default).opn), I ((l.getD s default).cls)] 88, cOwn (α := Int) 3 v_l2 l2, cBlk b_1 [.func (.func 155) #[] #[]] 167] R := H.ext hx_
  clear hx_
  refine ⟨(H.pick [0, 1, 2] (by decide) rfl), ?_⟩
  refine d_q rfl (fun w' H => x_mv (v := I start2) rfl) ?_
  refine d_q rfl (fun w' H => x_fa (a := Pz b_1) (v := Pz b_1) rfl (fa_blk (o := 0) Fd167_0 Sz165)) ?_
  refine d_q rfl (fun w' H => x_ld (p := Pz b_1) (v := .func (.func 155) #[] #[]) rfl (ldb_sc Sc165 (H.blk (k := 2) rfl) rfl)) ?_
  refine d_q rfl (fun w' H => x_fa (a := Pz b_2) (v := Pz b_2) rfl (fa_blk (o := 0) Fd88_0 Sz85)) ?_
  refine d_q rfl (fun w' H => x_ld (p := Pz b_2) (v := .agg #[I ((l.getD s default).wlo), I ((l.getD s default).whi)]) rfl (ldb_ag (ds := [I ((l.getD s default).wlo), I ((l.getD s default).whi)]) Ag85 Sz85 (H.blk (k := 0) rfl) rfl rfl)) ?_
  refine d_q rfl (fun w' H => x_fa (a := Pz b_2) (v := Oz b_2 4) rfl (fa_blk (o := 0) Fd88_2 Sz3)) ?_
  refine d_q rfl (fun w' H => x_ld (p := Oz b_2 4) (v := I ((l.getD s default).opn)) rfl (ldb_sc Sc3 (H.blk (k := 0) rfl) rfl)) ?_
  refine d_l rfl ?_
  obtain ⟨r19z, hx18z, hM⟩ := M.e_bind hM
  refine s_callv (f := 155) rfl cf155 [.agg #[I ((l.getD s default).wlo), I ((l.getD s default).whi)]] rfl (crew_low_1_ok (⟨((l.getD s default).wlo : Int), ((l.getD s default).whi : Int)⟩ : Span) hx18z _ (St.give (T := [cBlk b_2 [I ((l.getD s default).wlo), I ((l.getD s default).whi), I ((l.getD s default).klo), I ((l.getD s default).khi), I ((l.getD s default).opn), I ((l.getD s default).cls)] 88, cOwn (α := Int) 3 v_l2 l2, cBlk b_1 [.func (.func 155) #[] #[]] 167]) H rfl)) ?_
  rintro vq w20z ⟨r2, hr21z, hvq, H2_⟩
  subst hr21z
  subst vq
  try dsimp only at hM
  replace H : St w w20z [cBlk b_2 [I ((l.getD s default).wlo), I ((l.getD s default).whi), I ((l.getD s default).klo), I ((l.getD s default).khi), I ((l.getD s default).opn), I ((l.getD s default).cls)] 88, cOwn (α := Int) 3 v_l2 l2, cBlk b_1 [.func (.func 155) #[] #[]] 167] R := H.back H2_ rfl
  clear H2_
  refine s_nil ⟨(H.pick [0, 1, 2] (by decide) rfl), ?_⟩
  obtain ⟨sd22z, hM⟩ := M.e_gd hM
  refine d_q rfl (fun w' H => x_ari (a := start2) (b := r2) (r := start2 + r2) rfl rfl rfl (by omega)) ?_
  refine d_q rfl (fun w' H => x_max (kd := .i64) (a := start2 + r2) (b := (l.getD s default).opn) rfl rfl) ?_
  refine d_q rfl (fun w' H => x_as (v := I (max (start2 + r2) ((l.getD s default).opn))) rfl) ?_
  refine d_nil ?_
  refine sQ rfl <| sM v_l2 rfl <| sM (I (max (start2 + r2) ((l.getD s default).opn))) rfl ?_
  refine t_bs (α := Int) T34 [I (max (start2 + r2) ((l.getD s default).opn))] [(max (start2 + r2) ((l.getD s default).opn) : Int)] H rfl (.cons rfl (Flat.rep_enc _ (max (start2 + r2) ((l.getD s default).opn) : Int)) <| .nil) rfl rfl rfl ?_
  intro v23z w24z H
  obtain ⟨sd25z, hM⟩ := M.e_gd hM
  refine t_app (α := Int) (k := 2) (l := l2) (l2 := [(max (start2 + r2) ((l.getD s default).opn) : Int)]) (l' := l2 ++ ([(max (start2 + r2) ((l.getD s default).opn) : Int)])) (vy := v23z) T34 rfl H rfl rfl rfl (ownSl (H.get (k := 0) rfl)) (ownLe _ (H.get (k := 0) rfl)) (rfl) (by first | omega | (simp only [List.length_nil] at *; omega)) ?_
  intro v26z w27z H
  replace H : St w w27z [cOwn (α := Int) 3 v23z ([(max (start2 + r2) ((l.getD s default).opn) : Int)]), cBlk b_2 [I ((l.getD s default).wlo), I ((l.getD s default).whi), I ((l.getD s default).klo), I ((l.getD s default).khi), I ((l.getD s default).opn), I ((l.getD s default).cls)] 88, cOwn (α := Int) 3 v26z (l2 ++ ([(max (start2 + r2) ((l.getD s default).opn) : Int)])), cBlk b_1 [.func (.func 155) #[] #[]] 167] R := H
  refine sA v26z rfl <| s_nil <| W.region rfl <| sM (I (max (start2 + r2) ((l.getD s default).opn))) rfl <| s_val (x_fa (a := Pz b_1) (v := Pz b_1) rfl (fa_blk (o := 0) Fd167_0 Sz165)) <| s_val (x_ld (p := Pz b_1) (v := .func (.func 155) #[] #[]) rfl (ldb_sc Sc165 (H.blk (k := 3) rfl) rfl)) <| s_val (x_fa (a := Pz b_2) (v := Oz b_2 2) rfl (fa_blk (o := 0) Fd88_1 Sz85)) <| s_val (x_ld (p := Oz b_2 2) (v := .agg #[I ((l.getD s default).klo), I ((l.getD s default).khi)]) rfl (ldb_ag (ds := [I ((l.getD s default).klo), I ((l.getD s default).khi)]) Ag85 Sz85 (H.blk (k := 1) rfl) rfl rfl)) ?_
  obtain ⟨r29z, hx28z, hM⟩ := M.e_bind hM
  refine s_callv (f := 155) rfl cf155 [.agg #[I ((l.getD s default).klo), I ((l.getD s default).khi)]] rfl (crew_low_1_ok (⟨((l.getD s default).klo : Int), ((l.getD s default).khi : Int)⟩ : Span) hx28z _ (St.give (T := [cOwn (α := Int) 3 v23z ([(max (start2 + r2) ((l.getD s default).opn) : Int)]), cBlk b_2 [I ((l.getD s default).wlo), I ((l.getD s default).whi), I ((l.getD s default).klo), I ((l.getD s default).khi), I ((l.getD s default).opn), I ((l.getD s default).cls)] 88, cOwn (α := Int) 3 v26z (l2 ++ ([(max (start2 + r2) ((l.getD s default).opn) : Int)])), cBlk b_1 [.func (.func 155) #[] #[]] 167]) H rfl)) ?_
  rintro vq w30z ⟨r3, hr31z, hvq, H2_⟩
  subst hr31z
  subst vq
  try dsimp only at hM
  replace H : St w w30z [cOwn (α := Int) 3 v23z ([(max (start2 + r2) ((l.getD s default).opn) : Int)]), cBlk b_2 [I ((l.getD s default).wlo), I ((l.getD s default).whi), I ((l.getD s default).klo), I ((l.getD s default).khi), I ((l.getD s default).opn), I ((l.getD s default).cls)] 88, cOwn (α := Int) 3 v26z (l2 ++ ([(max (start2 + r2) ((l.getD s default).opn) : Int)])), cBlk b_1 [.func (.func 155) #[] #[]] 167] R := H.back H2_ rfl
  clear H2_
  obtain ⟨sd32z, hM⟩ := M.e_gd hM
  refine sR (max (start2 + r2) ((l.getD s default).opn)) r3 ((max (start2 + r2) ((l.getD s default).opn)) + r3) rfl rfl rfl (by omega) <| sA (I ((max (start2 + r2) ((l.getD s default).opn)) + r3)) rfl <| s_nil <| W.region rfl <| sR (s : Int) 1 ((s : Int) + 1) rfl rfl rfl (by omega) <| sM (I ((s : Int) + 1)) rfl <| s_nil ?_
  exact ⟨m9z, lt10z, (max (start2 + r2) ((l.getD s default).opn)) + r3, s + 1, l2 ++ ([(max (start2 + r2) ((l.getD s default).opn) : Int)]), v26z, _, upds_of _ _ ⟨rfl, rfl, rfl, rfl, rfl, rfl, trivial⟩, M.e_inl hM hN12z, (H.pick [2, 3] (by decide) rfl)⟩
 replace hM := M.e_f hM c13z
 simp only [qz1, qz2, qz3, qz4, qz5, qz6, ne_eq, qz7] at c13z
 refine W.exit ?_
 have hX33z := M.e_inr hM hN12z
 subst hX33z
 replace hM := hk5z
 try dsimp only at hM
 refine sQ rfl <| sM v_l2 rfl <| sA v_l2 rfl <| s_nil ?_
 refine W.ret ?_
 have hr_ := M.e_pure hM
 exact ⟨_, resE_tmp rfl, ⟨l2, v_l2, hr_, rfl, (H.pick [0] (by decide) rfl)⟩⟩

def m_crew_high : M Unit :=
  M.pure ()
theorem crew_high_ok {R : List Chunk}    {r : Unit} (hM : (m_crew_high).Ends r) (w : World) (H : St w w [] R) : Ret Try.prog 115 #[] w fun v w' => () = r ∧ v = .agg #[.func (.func 156) #[] #[]] ∧ St w w' [] R := by
 refine ret_of_W Try.func115 rfl rfl rfl ?_
 refine sQ rfl ?_
 refine t_alloc (cs := [.nilFunc]) H Al167 rfl ?_
 intro b_1 w1z H
 refine s_nil <| sQ rfl <| s_val (x_bld (ps := [(0, .func (.func 156) #[] #[])]) (zs := [.nilFunc]) (L' := [.func (.func 156) #[] #[]]) rfl Try.underlying167 Al167 rfl (Bd167 Try.underlying167) (.cons (cs := [.func (.func 156) #[] #[]]) rfl rfl rfl rfl rfl <| .nil)) ?_
 refine t_st (k := 0) (b := b_1) (off := 0) (cs := [.nilFunc]) (vs := [.func (.func 156) #[] #[]]) (cs' := [.func (.func 156) #[] #[]]) (v := .agg #[.func (.func 156) #[] #[]]) (L' := [cBlk b_1 [.func (.func 156) #[] #[]] 167]) H rfl rfl rfl Sz167 rfl rfl rfl rfl rfl rfl ?_
 intro w2z H
 refine s_nil ?_
 refine W.ret ?_
 have hr_ := M.e_pure hM
 exact ⟨_, (resE_of1 (v := .agg #[.func (.func 156) #[] #[]]) rfl (.cell (v := .agg #[.func (.func 156) #[] #[]]) rfl (run_loadVar_ag (ds := [.func (.func 156) #[] #[]]) Ag167 Sz167 (H.blk (k := 0) rfl) rfl rfl) <| .nil)), ⟨hr_, rfl, (H.pick [] (by decide) rfl)⟩⟩

def m_crew_high_1 (s : Span) : M Int :=
  M.pure s.hi
theorem crew_high_1_ok {R : List Chunk}  (s : Span)  {r : Int} (hM : (m_crew_high_1 s).Ends r) (w : World) (H : St w w [] R) : Ret Try.prog 156 #[.agg #[I s.lo, I s.hi]] w fun v w' => ∃ (y0 : Int), y0 = r ∧ v = I y0 ∧ St w w' [] R := by
 refine ret_of_W Try.func156 rfl rfl rfl ?_
 refine sQ rfl ?_
 refine t_box (v := .agg #[I s.lo, I s.hi]) (cs := [I s.lo, I s.hi]) H rfl rfl ?_
 intro b_1 w1z H
 refine sA (I 0) rfl <| s_nil <| sQ rfl <| s_val (x_fa (a := Pz b_1) (v := Oz b_1 1) rfl (fa_blk (o := 0) Fd85_1 Sz3)) <| s_val (x_ld (p := Oz b_1 1) (v := I s.hi) rfl (ldb_sc Sc3 (H.blk (k := 0) rfl) rfl)) <| sA (I s.hi) rfl <| s_nil ?_
 refine W.ret ?_
 have hr_ := M.e_pure hM
 exact ⟨_, resE_tmp rfl, ⟨s.hi, hr_, rfl, (H.pick [] (by decide) rfl)⟩⟩

def m_crew_begins_156_b0 (l : List Visit) : (Int × Nat × (List Int)) → M ((Int × Nat × (List Int)) ⊕ ((List Int) × (List Int))) := fun (start2, s, l2) =>
  bif decide ((s : Int) < (l.length : Int)) then (
  M.grd (decide ((s : Int) < (l.length : Int))) <|
  M.bind (m_crew_high_1 (⟨((l.getD s default).wlo : Int), ((l.getD s default).whi : Int)⟩ : Span)) fun r2 =>
  M.grd (decide ((-9223372036854775808 : Int) ≤ (start2 + r2)) && decide ((start2 + r2) ≤ (9223372036854775807 : Int))) <|
  M.grd (decide ((l2.length + ([(max (start2 + r2) ((l.getD s default).opn) : Int)]).length) * 8 ≤ 140737488355328)) <|
  M.bind (m_crew_high_1 (⟨((l.getD s default).klo : Int), ((l.getD s default).khi : Int)⟩ : Span)) fun r3 =>
  M.grd (decide ((-9223372036854775808 : Int) ≤ ((max (start2 + r2) ((l.getD s default).opn)) + r3)) && decide (((max (start2 + r2) ((l.getD s default).opn)) + r3) ≤ (9223372036854775807 : Int))) <|
  M.pure (.inl ((max (start2 + r2) ((l.getD s default).opn)) + r3, s + 1, l2 ++ ([(max (start2 + r2) ((l.getD s default).opn) : Int)]))))
  else (
  M.pure (.inr (l2, l2)))
def m_crew_begins_156 (start : Int) (l : List Visit) : M (List Int) :=
  M.bind (M.iter (m_crew_begins_156_b0 l) (start, 0, [])) fun (l3, l4) =>
  M.pure l4
theorem crew_begins_156_ok {R : List Chunk} {C_l : Cells} {v_l : Value} (start : Int) (l : List Visit) (hC_l : Reads R C_l) (hs_l : Sl C_l v_l l) {r : (List Int)} (hM : (m_crew_begins_156 start l).Ends r) (w : World) (H : St w w [] R) : Ret Try.prog 113 #[I start, v_l, .agg #[.func (.func 156) #[] #[]]] w fun v w' => ∃ (y0 : List Int) (u0 : Value), y0 = r ∧ v = u0 ∧ St w w' [cOwn (α := Int) 3 u0 y0] R := by
 refine ret_of_W Try.func113 rfl rfl rfl ?_
 refine sQ rfl ?_
 refine t_box (v := .agg #[.func (.func 156) #[] #[]]) (cs := [.func (.func 156) #[] #[]]) H rfl rfl ?_
 intro b_1 w1z H
 refine sA (.slice none 0 0) rfl <| s_nil <| sQ rfl <| sA (.slice none 0 0) rfl <| s_nil <| W.seq <| sQ rfl <| sM v_l rfl ?_
 have hl2z := (hs_l).len_le
 refine s_val (x_lenS T83.und rfl hs_l) <| sM (I 0) rfl <| s_nil <| W.block ?_
 replace H : St w w1z [cOwn (α := Int) 3 (.slice none 0 0) ([]), cBlk b_1 [.func (.func 156) #[] #[]] 167] R := H.nilOwn (α := Int) 3
 obtain ⟨ex3z, hi4z, hk5z⟩ := M.e_bind hM
 obtain ⟨m0_, hi4z⟩ := M.e_iter hi4z
 refine W.loop (fun m σ W => ∃ (start2 : Int) (s : Nat) (l2 : List Int) (v_l2 : Value) (ρ : Env), σ = upds ρ [(0, I start2), (5, Pz b_1), (7, v_l2), (11, v_l), (12, I (l.length : Int)), (13, I (s : Int))] ∧ M.iterN (m_crew_begins_156_b0 l) m (start2, s, l2) = some ex3z ∧ St w W [cOwn (α := Int) 3 v_l2 l2, cBlk b_1 [.func (.func 156) #[] #[]] 167] R) ?_ ?_
 ·exact ⟨_, start, 0, [], (.slice none 0 0), _, upds_of _ _ ⟨rfl, rfl, rfl, rfl, rfl, rfl, trivial⟩, hi4z, H⟩
 rintro m8z σ w6z ⟨start2, s, l2, v_l2, ρ, rfl, hI7z, H⟩
 obtain ⟨m9z, lt10z, x11z, hM, hN12z⟩ := M.e_iterN hI7z
 simp only [m_crew_begins_156_b0] at hM
 clear hI7z
 refine sQ rfl <| sC (s : Int) (l.length : Int) (decide ((s : Int) < (l.length : Int))) rfl rfl rfl <| s_nil <| W.seq ?_
 refine W.cond (decide ((s : Int) < (l.length : Int))) rfl (fun c13z => ?_) (fun c13z => ?_)
 ·replace hM := M.e_t hM c13z
  simp only [qz1, qz2, qz3, qz4, qz5, qz6, ne_eq, qz7] at c13z
  refine W.skip <| W.seq <| W.block <| sQ rfl ?_
  obtain ⟨sd14z, hM⟩ := M.e_gd hM
  refine s_val (x_ix (a := v_l) (b := I (s : Int)) (v := vat v_l 6 (Int.toNat (s : Int))) rfl rfl (Sl.ix (α := Visit) T83.und T83.size hs_l (by omega) (by omega))) <| s_val (x_ld (p := vat v_l 6 (Int.toNat (s : Int))) (v := .agg #[I ((l.getD s default).wlo), I ((l.getD s default).whi), I ((l.getD s default).klo), I ((l.getD s default).khi), I ((l.getD s default).opn), I ((l.getD s default).cls)]) rfl (ld_ag Ag88 Sz88 (At.mono (Visit_atA hs_l (i := (s : Int)) (by omega) (by omega)) (hC_l.at H)))) ?_
  refine t_alloc (cs := [I 0, I 0, I 0, I 0, I 0, I 0]) H Al88 rfl ?_
  intro b_2 w15z H
  refine t_st (k := 0) (b := b_2) (off := 0) (cs := [I 0, I 0, I 0, I 0, I 0, I 0]) (vs := [I ((l.getD s default).wlo), I ((l.getD s default).whi), I ((l.getD s default).klo), I ((l.getD s default).khi), I ((l.getD s default).opn), I ((l.getD s default).cls)]) (cs' := [I ((l.getD s default).wlo), I ((l.getD s default).whi), I ((l.getD s default).klo), I ((l.getD s default).khi), I ((l.getD s default).opn), I ((l.getD s default).cls)]) (v := .agg #[I ((l.getD s default).wlo), I ((l.getD s default).whi), I ((l.getD s default).klo), I ((l.getD s default).khi), I ((l.getD s default).opn), I ((l.getD s default).cls)]) (L' := [cBlk b_2 [I ((l.getD s default).wlo), I ((l.getD s default).whi), I ((l.getD s default).klo), I ((l.getD s default).khi), I ((l.getD s default).opn), I ((l.getD s default).cls)] 88, cOwn (α := Int) 3 v_l2 l2, cBlk b_1 [.func (.func 156) #[] #[]] 167]) H rfl rfl rfl Sz88 rfl rfl rfl rfl rfl rfl ?_
  intro w16z H
  refine s_nil <| W.seq ?_
  refine W.draw (fun W => St w W [cBlk b_2 [I ((l.getD s default).wlo), I ((l.getD s default).whi), I ((l.getD s default).klo), I ((l.getD s default).khi), I ((l.getD s default).opn), I ((l.getD s default).cls)] 88, cOwn (α := Int) 3 v_l2 l2, cBlk b_1 [.func (.func 156) #[] #[]] 167] R) [(0, true), (1, true), (2, true), (3, true), (4, true), (7, true), (8, true), (5, false), (6, true), (9, true), (10, true)] mixed (by decide +kernel) rfl ?_
  intro w17z hx_
  replace H : St w w17z [cBlk b_2 [I ((l.getD s default).wlo), I ((l.getD s default).whi), I ((l.getD s default).klo), I ((l.getD s default).khi), I ((l.getD s default).opn), I ((l.getD s default).cls)] 88, cOwn (α := Int) 3 v_l2 l2, cBlk b_1 [.func (.func 156) #[] #[]] 167] R := H.ext hx_
  clear hx_
  refine ⟨(H.pick [0, 1, 2] (by decide) rfl), ?_⟩
  refine d_q rfl (fun w' H => x_mv (v := I start2) rfl) ?_
  refine d_q rfl (fun w' H => x_fa (a := Pz b_1) (v := Pz b_1) rfl (fa_blk (o := 0) Fd167_0 Sz165)) ?_
  refine d_q rfl (fun w' H => x_ld (p := Pz b_1) (v := .func (.func 156) #[] #[]) rfl (ldb_sc Sc165 (H.blk (k := 2) rfl) rfl)) ?_
  refine d_q rfl (fun w' H => x_fa (a := Pz b_2) (v := Pz b_2) rfl (fa_blk (o := 0) Fd88_0 Sz85)) ?_
  refine d_q rfl (fun w' H => x_ld (p := Pz b_2) (v := .agg #[I ((l.getD s default).wlo), I ((l.getD s default).whi)]) rfl (ldb_ag (ds := [I ((l.getD s default).wlo), I ((l.getD s default).whi)]) Ag85 Sz85 (H.blk (k := 0) rfl) rfl rfl)) ?_
  refine d_q rfl (fun w' H => x_fa (a := Pz b_2) (v := Oz b_2 4) rfl (fa_blk (o := 0) Fd88_2 Sz3)) ?_
  refine d_q rfl (fun w' H => x_ld (p := Oz b_2 4) (v := I ((l.getD s default).opn)) rfl (ldb_sc Sc3 (H.blk (k := 0) rfl) rfl)) ?_
  refine d_l rfl ?_
  obtain ⟨r19z, hx18z, hM⟩ := M.e_bind hM
  refine s_callv (f := 156) rfl cf156 [.agg #[I ((l.getD s default).wlo), I ((l.getD s default).whi)]] rfl (crew_high_1_ok (⟨((l.getD s default).wlo : Int), ((l.getD s default).whi : Int)⟩ : Span) hx18z _ (St.give (T := [cBlk b_2 [I ((l.getD s default).wlo), I ((l.getD s default).whi), I ((l.getD s default).klo), I ((l.getD s default).khi), I ((l.getD s default).opn), I ((l.getD s default).cls)] 88, cOwn (α := Int) 3 v_l2 l2, cBlk b_1 [.func (.func 156) #[] #[]] 167]) H rfl)) ?_
  rintro vq w20z ⟨r2, hr21z, hvq, H2_⟩
  subst hr21z
  subst vq
  try dsimp only at hM
  replace H : St w w20z [cBlk b_2 [I ((l.getD s default).wlo), I ((l.getD s default).whi), I ((l.getD s default).klo), I ((l.getD s default).khi), I ((l.getD s default).opn), I ((l.getD s default).cls)] 88, cOwn (α := Int) 3 v_l2 l2, cBlk b_1 [.func (.func 156) #[] #[]] 167] R := H.back H2_ rfl
  clear H2_
  refine s_nil ⟨(H.pick [0, 1, 2] (by decide) rfl), ?_⟩
  obtain ⟨sd22z, hM⟩ := M.e_gd hM
  refine d_q rfl (fun w' H => x_ari (a := start2) (b := r2) (r := start2 + r2) rfl rfl rfl (by omega)) ?_
  refine d_q rfl (fun w' H => x_max (kd := .i64) (a := start2 + r2) (b := (l.getD s default).opn) rfl rfl) ?_
  refine d_q rfl (fun w' H => x_as (v := I (max (start2 + r2) ((l.getD s default).opn))) rfl) ?_
  refine d_nil ?_
  refine sQ rfl <| sM v_l2 rfl <| sM (I (max (start2 + r2) ((l.getD s default).opn))) rfl ?_
  refine t_bs (α := Int) T34 [I (max (start2 + r2) ((l.getD s default).opn))] [(max (start2 + r2) ((l.getD s default).opn) : Int)] H rfl (.cons rfl (Flat.rep_enc _ (max (start2 + r2) ((l.getD s default).opn) : Int)) <| .nil) rfl rfl rfl ?_
  intro v23z w24z H
  obtain ⟨sd25z, hM⟩ := M.e_gd hM
  refine t_app (α := Int) (k := 2) (l := l2) (l2 := [(max (start2 + r2) ((l.getD s default).opn) : Int)]) (l' := l2 ++ ([(max (start2 + r2) ((l.getD s default).opn) : Int)])) (vy := v23z) T34 rfl H rfl rfl rfl (ownSl (H.get (k := 0) rfl)) (ownLe _ (H.get (k := 0) rfl)) (rfl) (by first | omega | (simp only [List.length_nil] at *; omega)) ?_
  intro v26z w27z H
  replace H : St w w27z [cOwn (α := Int) 3 v23z ([(max (start2 + r2) ((l.getD s default).opn) : Int)]), cBlk b_2 [I ((l.getD s default).wlo), I ((l.getD s default).whi), I ((l.getD s default).klo), I ((l.getD s default).khi), I ((l.getD s default).opn), I ((l.getD s default).cls)] 88, cOwn (α := Int) 3 v26z (l2 ++ ([(max (start2 + r2) ((l.getD s default).opn) : Int)])), cBlk b_1 [.func (.func 156) #[] #[]] 167] R := H
  refine sA v26z rfl <| s_nil <| W.region rfl <| sM (I (max (start2 + r2) ((l.getD s default).opn))) rfl <| s_val (x_fa (a := Pz b_1) (v := Pz b_1) rfl (fa_blk (o := 0) Fd167_0 Sz165)) <| s_val (x_ld (p := Pz b_1) (v := .func (.func 156) #[] #[]) rfl (ldb_sc Sc165 (H.blk (k := 3) rfl) rfl)) <| s_val (x_fa (a := Pz b_2) (v := Oz b_2 2) rfl (fa_blk (o := 0) Fd88_1 Sz85)) <| s_val (x_ld (p := Oz b_2 2) (v := .agg #[I ((l.getD s default).klo), I ((l.getD s default).khi)]) rfl (ldb_ag (ds := [I ((l.getD s default).klo), I ((l.getD s default).khi)]) Ag85 Sz85 (H.blk (k := 1) rfl) rfl rfl)) ?_
  obtain ⟨r29z, hx28z, hM⟩ := M.e_bind hM
  refine s_callv (f := 156) rfl cf156 [.agg #[I ((l.getD s default).klo), I ((l.getD s default).khi)]] rfl (crew_high_1_ok (⟨((l.getD s default).klo : Int), ((l.getD s default).khi : Int)⟩ : Span) hx28z _ (St.give (T := [cOwn (α := Int) 3 v23z ([(max (start2 + r2) ((l.getD s default).opn) : Int)]), cBlk b_2 [I ((l.getD s default).wlo), I ((l.getD s default).whi), I ((l.getD s default).klo), I ((l.getD s default).khi), I ((l.getD s default).opn), I ((l.getD s default).cls)] 88, cOwn (α := Int) 3 v26z (l2 ++ ([(max (start2 + r2) ((l.getD s default).opn) : Int)])), cBlk b_1 [.func (.func 156) #[] #[]] 167]) H rfl)) ?_
  rintro vq w30z ⟨r3, hr31z, hvq, H2_⟩
  subst hr31z
  subst vq
  try dsimp only at hM
  replace H : St w w30z [cOwn (α := Int) 3 v23z ([(max (start2 + r2) ((l.getD s default).opn) : Int)]), cBlk b_2 [I ((l.getD s default).wlo), I ((l.getD s default).whi), I ((l.getD s default).klo), I ((l.getD s default).khi), I ((l.getD s default).opn), I ((l.getD s default).cls)] 88, cOwn (α := Int) 3 v26z (l2 ++ ([(max (start2 + r2) ((l.getD s default).opn) : Int)])), cBlk b_1 [.func (.func 156) #[] #[]] 167] R := H.back H2_ rfl
  clear H2_
  obtain ⟨sd32z, hM⟩ := M.e_gd hM
  refine sR (max (start2 + r2) ((l.getD s default).opn)) r3 ((max (start2 + r2) ((l.getD s default).opn)) + r3) rfl rfl rfl (by omega) <| sA (I ((max (start2 + r2) ((l.getD s default).opn)) + r3)) rfl <| s_nil <| W.region rfl <| sR (s : Int) 1 ((s : Int) + 1) rfl rfl rfl (by omega) <| sM (I ((s : Int) + 1)) rfl <| s_nil ?_
  exact ⟨m9z, lt10z, (max (start2 + r2) ((l.getD s default).opn)) + r3, s + 1, l2 ++ ([(max (start2 + r2) ((l.getD s default).opn) : Int)]), v26z, _, upds_of _ _ ⟨rfl, rfl, rfl, rfl, rfl, rfl, trivial⟩, M.e_inl hM hN12z, (H.pick [2, 3] (by decide) rfl)⟩
 replace hM := M.e_f hM c13z
 simp only [qz1, qz2, qz3, qz4, qz5, qz6, ne_eq, qz7] at c13z
 refine W.exit ?_
 have hX33z := M.e_inr hM hN12z
 subst hX33z
 replace hM := hk5z
 try dsimp only at hM
 refine sQ rfl <| sM v_l2 rfl <| sA v_l2 rfl <| s_nil ?_
 refine W.ret ?_
 have hr_ := M.e_pure hM
 exact ⟨_, resE_tmp rfl, ⟨l2, v_l2, hr_, rfl, (H.pick [0] (by decide) rfl)⟩⟩

def m_crew_Hours_b0 (l : List Visit) (r4 : List Int) (r5 : List Int) : (Nat × (List Span)) → M ((Nat × (List Span)) ⊕ ((List Span) × (List Span))) := fun (s, l2) =>
  bif decide ((s : Int) < (l.length : Int)) then (
  M.grd (decide ((s : Int) < (r4.length : Int))) <|
  M.grd (decide ((s : Int) < (r5.length : Int))) <|
  M.grd (decide ((l2.length + ([(⟨(r4.getD s 0 : Int), (r5.getD s 0 : Int)⟩ : Span)]).length) * 16 ≤ 140737488355328)) <|
  M.pure (.inl (s + 1, l2 ++ ([(⟨(r4.getD s 0 : Int), (r5.getD s 0 : Int)⟩ : Span)]))))
  else (
  M.pure (.inr (l2, l2)))
def m_crew_Hours (start : Int) (l : List Visit) : M ((List Span) × Int) :=
  M.bind (m_crew_rounded l) fun r2 =>
  bif r2 != 0 then (
  M.pure (([]), r2))
  else (
  M.bind (m_crew_minute start) fun r3 =>
  bif !r3 then (
  M.pure (([]), 4))
  else (
  M.bind (m_crew_low) fun (_ : Unit) =>
  M.bind (m_crew_begins_155 start l) fun r4 =>
  M.bind (m_crew_high) fun (_ : Unit) =>
  M.bind (m_crew_begins_156 start l) fun r5 =>
  M.bind (M.iter (m_crew_Hours_b0 l r4 r5) (0, [])) fun (l3, l4) =>
  M.pure (l4, 0)))
theorem crew_Hours_ok {R : List Chunk} {C_l : Cells} {v_l : Value} (start : Int) (l : List Visit) (hC_l : Reads R C_l) (hs_l : Sl C_l v_l l) {r : ((List Span) × Int)} (hM : (m_crew_Hours start l).Ends r) (w : World) (H : St w w [] R) : Ret Try.prog 56 #[I start, v_l] w fun v w' => ∃ (y0 : List Span) (y1 : Int) (u0 : Value), (y0, y1) = r ∧ v = .tuple #[u0, I y1] ∧ St w w' [cOwn (α := Span) 85 u0 y0] R := by
 refine ret_of_W Try.func56 rfl rfl rfl ?_
 refine sQ rfl <| sA (.slice none 0 0) rfl <| sA (I 0) rfl <| s_nil <| sQ rfl <| sM v_l rfl ?_
 obtain ⟨r2z, hx1z, hM⟩ := M.e_bind hM
 refine s_call cf111 [v_l] rfl (crew_rounded_ok l (hC_l.app _) hs_l hx1z _ (St.give (T := []) H rfl)) ?_
 rintro vq w3z ⟨r2, hr4z, hvq, H2_⟩
 subst hr4z
 subst vq
 try dsimp only at hM
 replace H : St w w3z [] R := H.back H2_ rfl
 clear H2_
 refine sA (I r2) rfl <| s_nil <| W.seq <| W.block <| sQ rfl <| sM (I r2) rfl <| sC r2 0 (r2 != 0) rfl rfl rfl <| sA (B (r2 != 0)) rfl <| s_nil ?_
 refine W.cond (r2 != 0) rfl (fun c5z => ?_) (fun c5z => ?_)
 ·replace hM := M.e_t hM c5z
  simp only [qz1, qz2, qz3, qz4, qz5, qz6, ne_eq, qz7] at c5z
  refine sQ rfl <| sM (I r2) rfl <| sA (.slice none 0 0) rfl <| sA (I r2) rfl <| s_nil ?_
  refine W.ret ?_
  have hr_ := M.e_pure hM
  replace H : St w w3z [cOwn (α := Span) 85 (.slice none 0 0) ([])] R := H.nilOwn (α := Span) 85
  exact ⟨_, resE_tmp2 rfl, ⟨([]), r2, (.slice none 0 0), hr_, rfl, H⟩⟩
 replace hM := M.e_f hM c5z
 simp only [qz1, qz2, qz3, qz4, qz5, qz6, ne_eq, qz7] at c5z
 refine sQ rfl <| sM (I start) rfl ?_
 obtain ⟨r7z, hx6z, hM⟩ := M.e_bind hM
 refine s_call cf112 [I start] rfl (crew_minute_ok start hx6z _ (St.give (T := []) H rfl)) ?_
 rintro vq w8z ⟨r3, hr9z, hvq, H2_⟩
 subst hr9z
 subst vq
 try dsimp only at hM
 replace H : St w w8z [] R := H.back H2_ rfl
 clear H2_
 refine s_val (x_not (b := r3) rfl) <| sA (B (!r3)) rfl <| s_nil ?_
 refine W.cond (!r3) rfl (fun c10z => ?_) (fun c10z => ?_)
 ·replace hM := M.e_t hM c10z
  refine sQ rfl <| sA (.slice none 0 0) rfl <| sA (I 4) rfl <| s_nil ?_
  refine W.ret ?_
  have hr_ := M.e_pure hM
  replace H : St w w8z [cOwn (α := Span) 85 (.slice none 0 0) ([])] R := H.nilOwn (α := Span) 85
  exact ⟨_, resE_tmp2 rfl, ⟨([]), 4, (.slice none 0 0), hr_, rfl, H⟩⟩
 replace hM := M.e_f hM c10z
 refine W.skip <| sQ rfl <| sM (I start) rfl <| sM v_l rfl ?_
 obtain ⟨r12z, hx11z, hM⟩ := M.e_bind hM
 refine s_call cf114 [] rfl (crew_low_ok hx11z _ (St.give (T := []) H rfl)) ?_
 rintro vq w13z ⟨hr14z, hvq, H2_⟩
 subst hr14z
 subst vq
 try dsimp only at hM
 replace H : St w w13z [] R := H.back H2_ rfl
 clear H2_
 obtain ⟨r16z, hx15z, hM⟩ := M.e_bind hM
 refine s_call cf113 [I start, v_l, .agg #[.func (.func 155) #[] #[]]] rfl (crew_begins_155_ok start l (hC_l.app _) hs_l hx15z _ (St.give (T := []) H rfl)) ?_
 rintro vq w17z ⟨r4, u0_1, hr18z, hvq, H2_⟩
 subst hr18z
 subst vq
 try dsimp only at hM
 replace H : St w w17z [cOwn (α := Int) 3 u0_1 r4] R := H.back H2_ rfl
 clear H2_
 refine sM (I start) rfl <| sM v_l rfl ?_
 obtain ⟨r20z, hx19z, hM⟩ := M.e_bind hM
 refine s_call cf115 [] rfl (crew_high_ok hx19z _ (St.give (T := [cOwn (α := Int) 3 u0_1 r4]) H rfl)) ?_
 rintro vq w21z ⟨hr22z, hvq, H2_⟩
 subst hr22z
 subst vq
 try dsimp only at hM
 replace H : St w w21z [cOwn (α := Int) 3 u0_1 r4] R := H.back H2_ rfl
 clear H2_
 obtain ⟨r24z, hx23z, hM⟩ := M.e_bind hM
 refine s_call cf113 [I start, v_l, .agg #[.func (.func 156) #[] #[]]] rfl (crew_begins_156_ok start l (hC_l.app _) hs_l hx23z _ (St.give (T := [cOwn (α := Int) 3 u0_1 r4]) H rfl)) ?_
 rintro vq w25z ⟨r5, u0_2, hr26z, hvq, H2_⟩
 subst hr26z
 subst vq
 try dsimp only at hM
 replace H : St w w25z [cOwn (α := Int) 3 u0_2 r5, cOwn (α := Int) 3 u0_1 r4] R := H.back H2_ rfl
 clear H2_
 refine sA u0_1 rfl <| sA u0_2 rfl <| s_nil <| sQ rfl <| sA (.slice none 0 0) rfl <| s_nil <| W.seq <| sQ rfl <| sM v_l rfl ?_
 have hl27z := (hs_l).len_le
 refine s_val (x_lenS T83.und rfl hs_l) <| sM (I 0) rfl <| s_nil <| W.block ?_
 replace H : St w w25z [cOwn (α := Span) 85 (.slice none 0 0) ([]), cOwn (α := Int) 3 u0_2 r5, cOwn (α := Int) 3 u0_1 r4] R := H.nilOwn (α := Span) 85
 obtain ⟨ex28z, hi29z, hk30z⟩ := M.e_bind hM
 obtain ⟨m0_, hi29z⟩ := M.e_iter hi29z
 refine W.loop (fun m σ W => ∃ (s : Nat) (l2 : List Span) (v_l2 : Value) (ρ : Env), σ = upds ρ [(7, u0_1), (8, u0_2), (9, v_l2), (30, I (l.length : Int)), (31, I (s : Int))] ∧ M.iterN (m_crew_Hours_b0 l r4 r5) m (s, l2) = some ex28z ∧ St w W [cOwn (α := Span) 85 v_l2 l2, cOwn (α := Int) 3 u0_2 r5, cOwn (α := Int) 3 u0_1 r4] R) ?_ ?_
 ·exact ⟨_, 0, [], (.slice none 0 0), _, upds_of _ _ ⟨rfl, rfl, rfl, rfl, rfl, trivial⟩, hi29z, H⟩
 rintro m33z σ w31z ⟨s, l2, v_l2, ρ, rfl, hI32z, H⟩
 obtain ⟨m34z, lt35z, x36z, hM, hN37z⟩ := M.e_iterN hI32z
 simp only [m_crew_Hours_b0] at hM
 clear hI32z
 refine sQ rfl <| sC (s : Int) (l.length : Int) (decide ((s : Int) < (l.length : Int))) rfl rfl rfl <| s_nil <| W.seq ?_
 refine W.cond (decide ((s : Int) < (l.length : Int))) rfl (fun c38z => ?_) (fun c38z => ?_)
 ·replace hM := M.e_t hM c38z
  simp only [qz1, qz2, qz3, qz4, qz5, qz6, ne_eq, qz7] at c38z
  refine W.skip <| W.seq <| W.block <| sQ rfl <| sM (I (s : Int)) rfl <| sA (I (s : Int)) rfl <| s_nil ?_
  refine W.draw (fun W => St w W [cOwn (α := Int) 3 u0_2 r5, cOwn (α := Int) 3 u0_1 r4] R) [(0, true), (1, true), (2, true), (3, true), (4, true), (5, true), (6, true), (7, true), (8, true), (9, true), (10, false), (11, false), (12, true)] mixed (by decide +kernel) rfl ?_
  intro w39z hx_
  replace H : St w w39z [cOwn (α := Span) 85 v_l2 l2, cOwn (α := Int) 3 u0_2 r5, cOwn (α := Int) 3 u0_1 r4] R := H.ext hx_
  clear hx_
  refine ⟨(H.pick [1, 2] (by decide) rfl), ?_⟩
  refine d_q rfl (fun w' H => x_mv (v := v_l2) rfl) ?_
  refine d_q rfl (fun w' H => x_mv (v := u0_1) rfl) ?_
  refine d_q rfl (fun w' H => x_mv (v := I (s : Int)) rfl) ?_
  obtain ⟨sd40z, hM⟩ := M.e_gd hM
  refine d_q rfl (fun w' H => x_ix (a := u0_1) (b := I (s : Int)) (v := vat u0_1 1 (Int.toNat (s : Int))) rfl rfl (Sl.ix (α := Int) T34.und T34.size (ownSl (H.get (k := 1) rfl)) (by omega) (by omega))) ?_
  refine d_q rfl (fun w' H => x_ld (p := vat u0_1 1 (Int.toNat (s : Int))) (v := I (r4.getD s 0)) rfl (ld_sc Sc3 (At.mono (Int_at (ownSl (H.get (k := 1) rfl)) (i := (s : Int)) (by omega) (by omega)) (ownLe _ (H.get (k := 1) rfl))))) ?_
  refine d_q rfl (fun w' H => x_mv (v := u0_2) rfl) ?_
  refine d_q rfl (fun w' H => x_mv (v := I (s : Int)) rfl) ?_
  obtain ⟨sd41z, hM⟩ := M.e_gd hM
  refine d_q rfl (fun w' H => x_ix (a := u0_2) (b := I (s : Int)) (v := vat u0_2 1 (Int.toNat (s : Int))) rfl rfl (Sl.ix (α := Int) T34.und T34.size (ownSl (H.get (k := 0) rfl)) (by omega) (by omega))) ?_
  refine d_q rfl (fun w' H => x_ld (p := vat u0_2 1 (Int.toNat (s : Int))) (v := I (r5.getD s 0)) rfl (ld_sc Sc3 (At.mono (Int_at (ownSl (H.get (k := 0) rfl)) (i := (s : Int)) (by omega) (by omega)) (ownLe _ (H.get (k := 0) rfl))))) ?_
  refine d_q rfl (fun w' H => x_bld (ps := [(0, I (r4.getD s 0)), (1, I (r5.getD s 0))]) (zs := [I 0, I 0]) (L' := [I (r4.getD s 0), I (r5.getD s 0)]) rfl Try.underlying85 Al85 rfl (Bd85 Try.underlying85) (.cons (cs := [I (r4.getD s 0)]) rfl rfl rfl rfl rfl <| .cons (cs := [I (r5.getD s 0)]) rfl rfl rfl rfl rfl <| .nil)) ?_
  refine d_l rfl ?_
  refine t_bs (α := Span) T89 [.agg #[I (r4.getD s 0), I (r5.getD s 0)]] [(⟨(r4.getD s 0 : Int), (r5.getD s 0 : Int)⟩ : Span)] H rfl (.cons rfl (Flat.rep_enc _ (⟨(r4.getD s 0 : Int), (r5.getD s 0 : Int)⟩ : Span)) <| .nil) rfl rfl rfl ?_
  intro v42z w43z H
  refine s_nil ⟨(H.pick [2, 3] (by decide) rfl), ?_⟩
  refine d_l rfl ?_
  obtain ⟨sd44z, hM⟩ := M.e_gd hM
  refine t_app (α := Span) (k := 1) (l := l2) (l2 := [(⟨(r4.getD s 0 : Int), (r5.getD s 0 : Int)⟩ : Span)]) (l' := l2 ++ ([(⟨(r4.getD s 0 : Int), (r5.getD s 0 : Int)⟩ : Span)])) (vy := v42z) T89 rfl H rfl rfl rfl (ownSl (H.get (k := 0) rfl)) (ownLe _ (H.get (k := 0) rfl)) (rfl) (by first | omega | (simp only [List.length_nil] at *; omega)) ?_
  intro v45z w46z H
  replace H : St w w46z [cOwn (α := Span) 85 v42z ([(⟨(r4.getD s 0 : Int), (r5.getD s 0 : Int)⟩ : Span)]), cOwn (α := Span) 85 v45z (l2 ++ ([(⟨(r4.getD s 0 : Int), (r5.getD s 0 : Int)⟩ : Span)])), cOwn (α := Int) 3 u0_2 r5, cOwn (α := Int) 3 u0_1 r4] R := H
  refine s_nil ⟨(H.pick [2, 3] (by decide) rfl), ?_⟩
  refine d_q rfl (fun w' H => x_as (v := v45z) rfl) ?_
  refine d_nil ?_
  refine W.region rfl <| sR (s : Int) 1 ((s : Int) + 1) rfl rfl rfl (by omega) <| sM (I ((s : Int) + 1)) rfl <| s_nil ?_
  exact ⟨m34z, lt35z, s + 1, l2 ++ ([(⟨(r4.getD s 0 : Int), (r5.getD s 0 : Int)⟩ : Span)]), v45z, _, upds_of _ _ ⟨rfl, rfl, rfl, rfl, rfl, trivial⟩, M.e_inl hM hN37z, (H.pick [1, 2, 3] (by decide) rfl)⟩
 replace hM := M.e_f hM c38z
 simp only [qz1, qz2, qz3, qz4, qz5, qz6, ne_eq, qz7] at c38z
 refine W.exit ?_
 have hX47z := M.e_inr hM hN37z
 subst hX47z
 replace hM := hk30z
 try dsimp only at hM
 refine sQ rfl <| sM v_l2 rfl <| sA v_l2 rfl <| sA (I 0) rfl <| s_nil ?_
 refine W.ret ?_
 have hr_ := M.e_pure hM
 exact ⟨_, resE_tmp2 rfl, ⟨l2, 0, v_l2, hr_, rfl, (H.pick [0] (by decide) rfl)⟩⟩

def m_crew_Latest_b0 (l : List Visit) : (Int × Int) → M ((Int × Int) ⊕ (Unit ⊕ Int)) := fun (s, i) =>
  bif decide (0 ≤ i) then (
  M.grd (decide ((0 : Int) ≤ i) && decide (i < (l.length : Int))) <|
  M.grd (decide ((-9223372036854775808 : Int) ≤ (s - ((l.getD (Int.toNat i) default).khi))) && decide ((s - ((l.getD (Int.toNat i) default).khi)) ≤ (9223372036854775807 : Int))) <|
  bif decide ((min ((l.getD (Int.toNat i) default).cls) (s - ((l.getD (Int.toNat i) default).khi))) < ((l.getD (Int.toNat i) default).opn)) then (
  M.pure (.inr (.inl ())))
  else (
  M.grd (decide ((-9223372036854775808 : Int) ≤ ((min ((l.getD (Int.toNat i) default).cls) (s - ((l.getD (Int.toNat i) default).khi))) - ((l.getD (Int.toNat i) default).whi))) && decide (((min ((l.getD (Int.toNat i) default).cls) (s - ((l.getD (Int.toNat i) default).khi))) - ((l.getD (Int.toNat i) default).whi)) ≤ (9223372036854775807 : Int))) <|
  M.grd (decide ((-9223372036854775808 : Int) ≤ (i - 1)) && decide ((i - 1) ≤ (9223372036854775807 : Int))) <|
  M.pure (.inl ((min ((l.getD (Int.toNat i) default).cls) (s - ((l.getD (Int.toNat i) default).khi))) - ((l.getD (Int.toNat i) default).whi), i - 1))))
  else (
  M.pure (.inr (.inr s)))
def m_crew_Latest (l : List Visit) : M (Int × Int) :=
  M.bind (m_crew_rounded l) fun r2 =>
  bif r2 != 0 then (
  M.pure (0, r2))
  else (
  M.bind (M.iter (m_crew_Latest_b0 l) (200000, (l.length : Int) - 1)) fun x_ => match x_ with
  | (.inl (_ : Unit)) => (
  M.pure (0, 5))
  | (.inr s2) => (
  bif decide (s2 < 0) then (
  M.pure (0, 5))
  else (
  M.pure (s2, 0))))
theorem crew_Latest_ok {R : List Chunk} {C_l : Cells} {v_l : Value} (l : List Visit) (hC_l : Reads R C_l) (hs_l : Sl C_l v_l l) {r : (Int × Int)} (hM : (m_crew_Latest l).Ends r) (w : World) (H : St w w [] R) : Ret Try.prog 57 #[v_l] w fun v w' => ∃ (y0 : Int) (y1 : Int), (y0, y1) = r ∧ v = .tuple #[I y0, I y1] ∧ St w w' [] R := by
 refine ret_of_W Try.func57 rfl rfl rfl ?_
 refine sQ rfl <| sA (I 0) rfl <| sA (I 0) rfl <| s_nil <| W.seq <| sQ rfl <| sM v_l rfl ?_
 obtain ⟨r2z, hx1z, hM⟩ := M.e_bind hM
 refine s_call cf111 [v_l] rfl (crew_rounded_ok l (hC_l.app _) hs_l hx1z _ (St.give (T := []) H rfl)) ?_
 rintro vq w3z ⟨r2, hr4z, hvq, H2_⟩
 subst hr4z
 subst vq
 try dsimp only at hM
 replace H : St w w3z [] R := H.back H2_ rfl
 clear H2_
 refine sA (I r2) rfl <| s_nil <| sQ rfl <| sM (I r2) rfl <| sC r2 0 (r2 != 0) rfl rfl rfl <| s_nil ?_
 refine W.cond (r2 != 0) rfl (fun c5z => ?_) (fun c5z => ?_)
 ·replace hM := M.e_t hM c5z
  simp only [qz1, qz2, qz3, qz4, qz5, qz6, ne_eq, qz7] at c5z
  refine sQ rfl <| sM (I r2) rfl <| sA (I 0) rfl <| sA (I r2) rfl <| s_nil ?_
  refine W.ret ?_
  have hr_ := M.e_pure hM
  exact ⟨_, resE_tmp2 rfl, ⟨0, r2, hr_, rfl, H⟩⟩
 replace hM := M.e_f hM c5z
 simp only [qz1, qz2, qz3, qz4, qz5, qz6, ne_eq, qz7] at c5z
 refine W.skip <| sQ rfl <| sA (I 200000) rfl <| s_nil <| W.seq <| sQ rfl <| sM v_l rfl ?_
 have hl6z := (hs_l).len_le
 refine s_val (x_lenS T83.und rfl hs_l) <| sR (l.length : Int) 1 ((l.length : Int) - 1) rfl rfl rfl (by omega) <| sA (I ((l.length : Int) - 1)) rfl <| s_nil <| W.block ?_
 obtain ⟨ex7z, hi8z, hk9z⟩ := M.e_bind hM
 obtain ⟨m0_, hi8z⟩ := M.e_iter hi8z
 refine W.loop (fun m σ W => ∃ (s : Int) (i : Int) (ρ : Env), σ = upds ρ [(0, v_l), (5, I s), (6, I i)] ∧ M.iterN (m_crew_Latest_b0 l) m (s, i) = some ex7z ∧ St w W [] R) ?_ ?_
 ·exact ⟨_, 200000, (l.length : Int) - 1, _, upds_of _ _ ⟨rfl, rfl, rfl, trivial⟩, hi8z, H⟩
 rintro m12z σ w10z ⟨s, i, ρ, rfl, hI11z, H⟩
 obtain ⟨m13z, lt14z, x15z, hM, hN16z⟩ := M.e_iterN hI11z
 simp only [m_crew_Latest_b0] at hM
 clear hI11z
 refine W.seq <| sQ rfl <| sM (I i) rfl <| sC i 0 (decide (0 ≤ i)) rfl rfl rfl <| s_nil ?_
 refine W.cond (decide (0 ≤ i)) rfl (fun c17z => ?_) (fun c17z => ?_)
 ·replace hM := M.e_t hM c17z
  simp only [qz1, qz2, qz3, qz4, qz5, qz6, ne_eq, qz7] at c17z
  refine W.skip <| W.seq <| W.block <| W.seq ?_
  refine W.draw (fun W => St w W [] R) [(0, true), (1, true), (2, true), (3, true), (4, true), (5, true), (6, true), (7, true), (8, true), (9, true), (10, true), (11, true), (12, true), (13, true), (14, true)] mixed (by decide +kernel) rfl ?_
  intro w18z hx_
  replace H : St w w18z [] R := H.ext hx_
  clear hx_
  refine ⟨(H.pick [] (by decide) rfl), ?_⟩
  refine d_q rfl (fun w' H => x_mv (v := v_l) rfl) ?_
  refine d_q rfl (fun w' H => x_mv (v := I i) rfl) ?_
  obtain ⟨sd19z, hM⟩ := M.e_gd hM
  refine d_q rfl (fun w' H => x_ix (a := v_l) (b := I i) (v := vat v_l 6 (Int.toNat i)) rfl rfl (Sl.ix (α := Visit) T83.und T83.size hs_l (by omega) (by omega))) ?_
  refine d_q rfl (fun w' H => x_fa (a := vat v_l 6 (Int.toNat i)) (v := fat (vat v_l 6 (Int.toNat i)) 5) rfl (fa_pl Fd88_3 Sz3 (Sl.pl (i := i) hs_l (by omega) (by omega)))) ?_
  refine d_q rfl (fun w' H => x_ld (p := fat (vat v_l 6 (Int.toNat i)) 5) (v := I ((l.getD (Int.toNat i) default).cls)) rfl (ld_sc Sc3 (At.mono (Visit_at5 hs_l (i := i) (by omega) (by omega)) (hC_l.at H)))) ?_
  refine d_q rfl (fun w' H => x_mv (v := I s) rfl) ?_
  refine d_q rfl (fun w' H => x_mv (v := v_l) rfl) ?_
  refine d_q rfl (fun w' H => x_mv (v := I i) rfl) ?_
  refine d_q rfl (fun w' H => x_ix (a := v_l) (b := I i) (v := vat v_l 6 (Int.toNat i)) rfl rfl (Sl.ix (α := Visit) T83.und T83.size hs_l (by omega) (by omega))) ?_
  refine d_q rfl (fun w' H => x_fa (a := vat v_l 6 (Int.toNat i)) (v := fat (vat v_l 6 (Int.toNat i)) 2) rfl (fa_pl Fd88_1 Sz85 (Sl.pl (i := i) hs_l (by omega) (by omega)))) ?_
  refine d_q rfl (fun w' H => x_fa (a := fat (vat v_l 6 (Int.toNat i)) 2) (v := fat (vat v_l 6 (Int.toNat i)) 3) rfl (fa_pl2 (a := 2) (c := 3) Fd85_1 Sz3 (Sl.pl (i := i) hs_l (by omega) (by omega)) rfl)) ?_
  refine d_q rfl (fun w' H => x_ld (p := fat (vat v_l 6 (Int.toNat i)) 3) (v := I ((l.getD (Int.toNat i) default).khi)) rfl (ld_sc Sc3 (At.mono (Visit_at3 hs_l (i := i) (by omega) (by omega)) (hC_l.at H)))) ?_
  obtain ⟨sd20z, hM⟩ := M.e_gd hM
  refine d_q rfl (fun w' H => x_ari (a := s) (b := (l.getD (Int.toNat i) default).khi) (r := s - ((l.getD (Int.toNat i) default).khi)) rfl rfl rfl (by omega)) ?_
  refine d_q rfl (fun w' H => x_min (kd := .i64) (a := (l.getD (Int.toNat i) default).cls) (b := s - ((l.getD (Int.toNat i) default).khi)) rfl rfl) ?_
  refine d_q rfl (fun w' H => x_as (v := I (min ((l.getD (Int.toNat i) default).cls) (s - ((l.getD (Int.toNat i) default).khi)))) rfl) ?_
  refine d_nil ?_
  refine W.seq <| sQ rfl <| sM (I (min ((l.getD (Int.toNat i) default).cls) (s - ((l.getD (Int.toNat i) default).khi)))) rfl <| sM v_l rfl <| sM (I i) rfl <| s_val (x_ix (a := v_l) (b := I i) (v := vat v_l 6 (Int.toNat i)) rfl rfl (Sl.ix (α := Visit) T83.und T83.size hs_l (by omega) (by omega))) <| s_val (x_fa (a := vat v_l 6 (Int.toNat i)) (v := fat (vat v_l 6 (Int.toNat i)) 4) rfl (fa_pl Fd88_2 Sz3 (Sl.pl (i := i) hs_l (by omega) (by omega)))) <| s_val (x_ld (p := fat (vat v_l 6 (Int.toNat i)) 4) (v := I ((l.getD (Int.toNat i) default).opn)) rfl (ld_sc Sc3 (At.mono (Visit_at4 hs_l (i := i) (by omega) (by omega)) (hC_l.at H)))) <| sC (min ((l.getD (Int.toNat i) default).cls) (s - ((l.getD (Int.toNat i) default).khi))) ((l.getD (Int.toNat i) default).opn) (decide ((min ((l.getD (Int.toNat i) default).cls) (s - ((l.getD (Int.toNat i) default).khi))) < ((l.getD (Int.toNat i) default).opn))) rfl rfl rfl <| s_nil ?_
  refine W.cond (decide ((min ((l.getD (Int.toNat i) default).cls) (s - ((l.getD (Int.toNat i) default).khi))) < ((l.getD (Int.toNat i) default).opn))) rfl (fun c21z => ?_) (fun c21z => ?_)
  ·replace hM := M.e_t hM c21z
   simp only [qz1, qz2, qz3, qz4, qz5, qz6, ne_eq, qz7] at c21z
   refine sQ rfl <| sA (I 0) rfl <| sA (I 5) rfl <| s_nil ?_
   refine W.ret ?_
   have hX22z := M.e_inr hM hN16z
   subst hX22z
   replace hM := hk9z
   try dsimp only at hM
   have hr_ := M.e_pure hM
   exact ⟨_, resE_tmp2 rfl, ⟨0, 5, hr_, rfl, H⟩⟩
  replace hM := M.e_f hM c21z
  simp only [qz1, qz2, qz3, qz4, qz5, qz6, ne_eq, qz7] at c21z
  refine W.skip <| W.region rfl <| sM (I (min ((l.getD (Int.toNat i) default).cls) (s - ((l.getD (Int.toNat i) default).khi)))) rfl <| sM v_l rfl <| sM (I i) rfl <| s_val (x_ix (a := v_l) (b := I i) (v := vat v_l 6 (Int.toNat i)) rfl rfl (Sl.ix (α := Visit) T83.und T83.size hs_l (by omega) (by omega))) <| s_val (x_fa (a := vat v_l 6 (Int.toNat i)) (v := fat (vat v_l 6 (Int.toNat i)) 0) rfl (fa_pl Fd88_0 Sz85 (Sl.pl (i := i) hs_l (by omega) (by omega)))) <| s_val (x_fa (a := fat (vat v_l 6 (Int.toNat i)) 0) (v := fat (vat v_l 6 (Int.toNat i)) 1) rfl (fa_pl2 (a := 0) (c := 1) Fd85_1 Sz3 (Sl.pl (i := i) hs_l (by omega) (by omega)) rfl)) <| s_val (x_ld (p := fat (vat v_l 6 (Int.toNat i)) 1) (v := I ((l.getD (Int.toNat i) default).whi)) rfl (ld_sc Sc3 (At.mono (Visit_at1 hs_l (i := i) (by omega) (by omega)) (hC_l.at H)))) ?_
  obtain ⟨sd23z, hM⟩ := M.e_gd hM
  refine sR (min ((l.getD (Int.toNat i) default).cls) (s - ((l.getD (Int.toNat i) default).khi))) ((l.getD (Int.toNat i) default).whi) ((min ((l.getD (Int.toNat i) default).cls) (s - ((l.getD (Int.toNat i) default).khi))) - ((l.getD (Int.toNat i) default).whi)) rfl rfl rfl (by omega) <| sA (I ((min ((l.getD (Int.toNat i) default).cls) (s - ((l.getD (Int.toNat i) default).khi))) - ((l.getD (Int.toNat i) default).whi))) rfl <| s_nil <| W.region rfl <| sM (I i) rfl ?_
  obtain ⟨sd24z, hM⟩ := M.e_gd hM
  refine sR i 1 (i - 1) rfl rfl rfl (by omega) <| sA (I (i - 1)) rfl <| s_nil ?_
  exact ⟨m13z, lt14z, (min ((l.getD (Int.toNat i) default).cls) (s - ((l.getD (Int.toNat i) default).khi))) - ((l.getD (Int.toNat i) default).whi), i - 1, _, upds_of _ _ ⟨rfl, rfl, rfl, trivial⟩, M.e_inl hM hN16z, H⟩
 replace hM := M.e_f hM c17z
 simp only [qz1, qz2, qz3, qz4, qz5, qz6, ne_eq, qz7] at c17z
 refine W.exit ?_
 have hX25z := M.e_inr hM hN16z
 subst hX25z
 replace hM := hk9z
 try dsimp only at hM
 refine W.seq <| sQ rfl <| sM (I s) rfl <| sC s 0 (decide (s < 0)) rfl rfl rfl <| s_nil ?_
 refine W.cond (decide (s < 0)) rfl (fun c26z => ?_) (fun c26z => ?_)
 ·replace hM := M.e_t hM c26z
  simp only [qz1, qz2, qz3, qz4, qz5, qz6, ne_eq, qz7] at c26z
  refine sQ rfl <| sA (I 0) rfl <| sA (I 5) rfl <| s_nil ?_
  refine W.ret ?_
  have hr_ := M.e_pure hM
  exact ⟨_, resE_tmp2 rfl, ⟨0, 5, hr_, rfl, H⟩⟩
 replace hM := M.e_f hM c26z
 simp only [qz1, qz2, qz3, qz4, qz5, qz6, ne_eq, qz7] at c26z
 refine W.skip <| sQ rfl <| sM (I s) rfl <| sA (I s) rfl <| sA (I 0) rfl <| s_nil ?_
 refine W.ret ?_
 have hr_ := M.e_pure hM
 exact ⟨_, resE_tmp2 rfl, ⟨s, 0, hr_, rfl, H⟩⟩

def m_nilometerlaw13_NotesWorked_b0 (r3 : List Work) (r0 : List Int) (l : List Int) : (Nat × Int × Int × Int × (List Visit)) → M ((Nat × Int × Int × Int × (List Visit)) ⊕ ((List Visit) ⊕ ((List Visit) × Int × Int × Int × (List Visit)))) := fun (s, sum, most, last, l2) =>
  bif decide ((s : Int) < (r0.length : Int)) then (
  M.grd (decide ((s : Int) < (r0.length : Int))) <|
  bif ((decide ((r0.getD s 0) < 0)) || (decide ((r3.length : Int) ≤ (r0.getD s 0)))) then (
  M.pure (.inr (.inl l2)))
  else (
  M.grd (decide ((0 : Int) ≤ (r0.getD s 0)) && decide ((r0.getD s 0) < (l.length : Int))) <|
  bif (l.getD (Int.toNat (r0.getD s 0)) 0) == (-1) then (
  M.pure (.inl (s + 1, sum, most, last, l2)))
  else (
  M.grd (decide ((0 : Int) ≤ (r0.getD s 0)) && decide ((r0.getD s 0) < (r3.length : Int))) <|
  M.grd (decide ((-9223372036854775808 : Int) ≤ (sum + ((r3.getD (Int.toNat (r0.getD s 0)) default).minutes))) && decide ((sum + ((r3.getD (Int.toNat (r0.getD s 0)) default).minutes)) ≤ (9223372036854775807 : Int))) <|
  M.bind (m_nilometerlaw13_span ((r3.getD (Int.toNat (r0.getD s 0)) default).minutes) ((r3.getD (Int.toNat (r0.getD s 0)) default).minutes)) fun (r02, r13) =>
  M.grd (decide ((l2.length + ([(⟨(0 : Int), (0 : Int), (r02 : Int), (r13 : Int), (0 : Int), (100000 : Int)⟩ : Visit)]).length) * 48 ≤ 140737488355328)) <|
  M.pure (.inl (s + 1, sum + ((r3.getD (Int.toNat (r0.getD s 0)) default).minutes), max most (l.getD (Int.toNat (r0.getD s 0)) 0), (r3.getD (Int.toNat (r0.getD s 0)) default).minutes, l2 ++ ([(⟨(0 : Int), (0 : Int), (r02 : Int), (r13 : Int), (0 : Int), (100000 : Int)⟩ : Visit)]))))))
  else (
  M.pure (.inr (.inr (l2, sum, most, last, l2))))
def m_nilometerlaw13_NotesWorked (numbers : List UInt8) (more : Int) : M Bool :=
  M.bind (m_nilometerkit_New numbers) fun (r1, r2) =>
  M.bind (m_nilometerlaw13_Made numbers r1 r2 14) fun (r3, q1, q2) =>
  M.bind (m_nilometerlaw13_Revised numbers q1 q2 r3) fun (r4, q12, q22) =>
  M.bind (m_notes_Order r3) fun (r0, r12) =>
  M.bind (M.pure (readyR r3 r4, askedE r3 r4)) fun (l, e) =>
  bif ((((r12 != 0) || (e != 0)) || ((l.length : Int) != (r3.length : Int))) || ((r0.length : Int) != (r3.length : Int))) then (
  M.pure false)
  else (
  M.bind (M.iter (m_nilometerlaw13_NotesWorked_b0 r3 r0 l) (0, 0, 0, 0, [])) fun x_ => match x_ with
  | (.inl l3) => (
  M.pure false)
  | (.inr (l4, sum2, most2, last2, l5)) => (
  bif (l5.length : Int) == 0 then (
  M.pure false)
  else (
  M.grd (decide ((-9223372036854775808 : Int) ≤ (sum2 - last2)) && decide ((sum2 - last2) ≤ (9223372036854775807 : Int))) <|
  M.grd (decide ((0 : Int) ≤ more) && decide (more < (256 : Int))) <|
  M.grd (decide ((-9223372036854775808 : Int) ≤ ((sum2 - last2) + more)) && decide (((sum2 - last2) + more) ≤ (9223372036854775807 : Int))) <|
  M.grd (decide ((0 : Int) ≤ ((l5.length : Int) - 1)) && decide (((l5.length : Int) - 1) < (l5.length : Int))) <|
  M.bind (m_crew_Hours 0 (l5.set (Int.toNat ((l5.length : Int) - 1)) ({ (l5.getD (Int.toNat ((l5.length : Int) - 1)) default) with cls := (sum2 - last2) + more }))) fun (r03, r14) =>
  M.bind (m_crew_Latest (l5.set (Int.toNat ((l5.length : Int) - 1)) ({ (l5.getD (Int.toNat ((l5.length : Int) - 1)) default) with cls := (sum2 - last2) + more }))) fun (r04, r15) =>
  bif (((r14 != 0) || (r15 != 0)) || ((r03.length : Int) != ((l5.set (Int.toNat ((l5.length : Int) - 1)) ({ (l5.getD (Int.toNat ((l5.length : Int) - 1)) default) with cls := (sum2 - last2) + more })).length : Int))) then (
  M.pure false)
  else (
  M.grd (decide ((0 : Int) ≤ ((r03.length : Int) - 1)) && decide (((r03.length : Int) - 1) < (r03.length : Int))) <|
  M.grd (decide ((-9223372036854775808 : Int) ≤ (((r03.getD (Int.toNat ((r03.length : Int) - 1)) default).hi) + last2)) && decide ((((r03.getD (Int.toNat ((r03.length : Int) - 1)) default).hi) + last2) ≤ (9223372036854775807 : Int))) <|
  M.bind (M.opt ((((((r03.getD (Int.toNat ((r03.length : Int) - 1)) default).hi) + last2) == sum2) && (decide (most2 ≤ (((r03.getD (Int.toNat ((r03.length : Int) - 1)) default).hi) + last2)))) && (r04 == more)) (m_nilometerlaw13_awake) false) fun r5 =>
  M.pure (((((((r03.getD (Int.toNat ((r03.length : Int) - 1)) default).hi) + last2) == sum2) && (decide (most2 ≤ (((r03.getD (Int.toNat ((r03.length : Int) - 1)) default).hi) + last2)))) && (r04 == more)) && r5)))))
theorem nilometerlaw13_NotesWorked_ok {R : List Chunk} {C_numbers : Cells} {v_numbers : Value} (numbers : List UInt8) (more : Int) (hC_numbers : Reads R C_numbers) (hs_numbers : Sl C_numbers v_numbers numbers) {r : Bool} (hM : (m_nilometerlaw13_NotesWorked numbers more).Ends r) (w : World) (H : St w w [] R) : Ret Try.prog 9 #[v_numbers, .int .u8 more] w fun v w' => ∃ (y0 : Bool), y0 = r ∧ v = B y0 ∧ St w w' [] R := by
 refine ret_of_W Try.func9 rfl rfl rfl ?_
 refine sQ rfl <| sA (B false) rfl <| s_nil <| sQ rfl <| sM v_numbers rfl ?_
 obtain ⟨r2z, hx1z, hM⟩ := M.e_bind hM
 refine s_call cf40 [v_numbers] rfl (nilometerkit_New_ok numbers (hC_numbers.app _) hs_numbers hx1z _ (St.give (T := []) H rfl)) ?_
 rintro vq w3z ⟨r1, r2, nb0_1, hr4z, hvq, H2_⟩
 subst hr4z
 subst vq
 try dsimp only at hM
 replace H : St w w3z [cBlk nb0_1 [v_numbers, I r1, I r2] 158] R := H.back H2_ rfl
 clear H2_
 refine sA (Pz nb0_1) rfl <| s_nil <| sQ rfl <| sM (Pz nb0_1) rfl ?_
 obtain ⟨r6z, hx5z, hM⟩ := M.e_bind hM
 refine s_call cf41 [Pz nb0_1, I 14] rfl (nilometerlaw13_Made_ok numbers r1 r2 14 (hC_numbers.app _) hs_numbers hx5z _ (St.give (T := []) H rfl)) ?_
 rintro vq w7z ⟨r3, q1, q2, u0_2, rr1_3, Bs2_4, hr8z, hvq, H2_, hf9z⟩
 subst hr8z
 subst vq
 try dsimp only at hM
 replace H : St w w7z [cOwn (α := Raw 2) 60 u0_2 rr1_3, cRo Bs2_4, cBlk nb0_1 [v_numbers, I q1, I q2] 158] R := H.back H2_ rfl
 clear H2_
 refine sA u0_2 rfl <| s_nil <| sQ rfl <| sM (Pz nb0_1) rfl <| sM u0_2 rfl ?_
 obtain ⟨r11z, hx10z, hM⟩ := M.e_bind hM
 refine s_call cf47 [Pz nb0_1, u0_2] rfl (nilometerlaw13_Revised_ok numbers q1 q2 r3 (hC_numbers.app _) hs_numbers (Reads.sup (Reads.of (k := 0) rfl ownLe) (Reads.of (k := 1) rfl roLe)) (rowSl rfl (H.get (k := 0) rfl) (roLe _ (H.get (k := 1) rfl)) hf9z) hx10z _ (St.give (L := [cBlk nb0_1 [v_numbers, I q1, I q2] 158, cOwn (α := Raw 2) 60 u0_2 rr1_3, cRo Bs2_4]) (A := [cBlk nb0_1 [v_numbers, I q1, I q2] 158]) (T := [cOwn (α := Raw 2) 60 u0_2 rr1_3, cRo Bs2_4]) (H.pick [2, 0, 1] (by decide) rfl) rfl)) ?_
 rintro vq w12z ⟨r4, q12, q22, u0_5, hr13z, hvq, H2_⟩
 subst hr13z
 subst vq
 try dsimp only at hM
 replace H : St w w12z [cOwn (α := Int) 3 u0_5 r4, cBlk nb0_1 [v_numbers, I q12, I q22] 158, cOwn (α := Raw 2) 60 u0_2 rr1_3, cRo Bs2_4] R := H.pick [2, 0, 1] (by decide) rfl |>.back H2_ rfl
 clear H2_
 refine sA u0_5 rfl <| s_nil <| sQ rfl <| sM u0_2 rfl ?_
 obtain ⟨r15z, hx14z, hM⟩ := M.e_bind hM
 refine s_call cf54 [u0_2] rfl (notes_Order_ok r3 (Reads.sup (Reads.of (k := 2) rfl ownLe) (Reads.of (k := 3) rfl roLe)) (rowSl rfl (H.get (k := 2) rfl) (roLe _ (H.get (k := 3) rfl)) hf9z) hx14z _ (St.give (T := [cOwn (α := Int) 3 u0_5 r4, cBlk nb0_1 [v_numbers, I q12, I q22] 158, cOwn (α := Raw 2) 60 u0_2 rr1_3, cRo Bs2_4]) H rfl)) ?_
 rintro vq w16z ⟨r0, r12, u0_6, Bs1_7, hr17z, hvq, H2_, hf18z⟩
 subst hr17z
 subst vq
 try dsimp only at hM
 replace H : St w w16z [cRo Bs1_7, cOwn (α := Int) 3 u0_5 r4, cBlk nb0_1 [v_numbers, I q12, I q22] 158, cOwn (α := Raw 2) 60 u0_2 rr1_3, cRo Bs2_4] R := H.back H2_ rfl
 clear H2_
 refine sM (.tuple #[u0_6, I r12]) rfl <| sX [u0_6, I r12] u0_6 rfl rfl <| sX [u0_6, I r12] (I r12) rfl rfl <| sA u0_6 rfl <| sA (I r12) rfl <| s_nil <| sQ rfl <| sM u0_2 rfl <| sM u0_5 rfl ?_
 obtain ⟨⟨l, e⟩, hx22z, hM⟩ := M.e_bind hM
 obtain ⟨hq23z, hq24z⟩ := Prod.mk.inj (M.e_pure hx22z)
 try dsimp only at hM
 refine s_call cf36 [u0_2, u0_5] rfl (by have hc_ := (Ready_any _ ((rowSl rfl (H.get (k := 3) rfl) (roLe _ (H.get (k := 4) rfl)) hf9z).mono (Cells.sup_le (ownLe _ (H.get (k := 3) rfl)) (roLe _ (H.get (k := 4) rfl)))) ((ownSl (H.get (k := 1) rfl)).mono (ownLe _ (H.get (k := 1) rfl)))); rw [hq23z, hq24z] at hc_; exact hc_) ?_
 rintro _ w19z ⟨u20z, rfl, hs21z, hx_⟩
 obtain ⟨Bs_8, H, hs21z⟩ := H.fresh hx_ hs21z
 clear hx_
 have hl_hs21z := hs21z.len_le
 refine sM (.tuple #[u20z, I e]) rfl <| sX [u20z, I e] u20z rfl rfl <| sX [u20z, I e] (I e) rfl rfl <| sA u20z rfl <| sA (I e) rfl <| s_nil <| W.seq <| sQ rfl <| sM (I r12) rfl <| sC r12 0 (r12 != 0) rfl rfl rfl <| sM (B (r12 != 0)) rfl ?_
 refine g_val (!(r12 != 0)) (gy_f rfl) (fun hg => x_mv (v := I e) rfl) <| g_val (!(r12 != 0)) (gy_f rfl) (fun hg => x_cmp (kd := .i64) (a := e) (b := 0) (r := e != 0) (gd_of (c := !(r12 != 0)) hg (I e)) rfl rfl) <| s_val (x_por (b := r12 != 0) (r := e != 0) rfl rfl (fun hb => gd_of (c := !(r12 != 0)) (by first | exact hb | (rw [hb]; rfl) | simp_all) (B (e != 0)))) <| sM (B ((r12 != 0) || (e != 0))) rfl <| g_val (!((r12 != 0) || (e != 0))) (gy_f rfl) (fun hg => x_mv (v := u20z) rfl) <| g_val (!((r12 != 0) || (e != 0))) (gy_f rfl) (fun hg => x_lenS T34.und (gd_of (c := !((r12 != 0) || (e != 0))) hg (u20z)) hs21z) <| g_val (!((r12 != 0) || (e != 0))) (gy_f rfl) (fun hg => x_mv (v := u0_2) rfl) <| g_val (!((r12 != 0) || (e != 0))) (gy_f rfl) (fun hg => x_lenS T22.und (gd_of (c := !((r12 != 0) || (e != 0))) hg (u0_2)) (rowSl rfl (H.get (k := 4) rfl) (roLe _ (H.get (k := 5) rfl)) hf9z)) <| g_val (!((r12 != 0) || (e != 0))) (gy_f rfl) (fun hg => x_cmp (kd := .i64) (a := (l.length : Int)) (b := (r3.length : Int)) (r := (l.length : Int) != (r3.length : Int)) (gd_of (c := !((r12 != 0) || (e != 0))) hg (I (l.length : Int))) (gd_of (c := !((r12 != 0) || (e != 0))) hg (I (r3.length : Int))) rfl) <| s_val (x_por (b := ((r12 != 0) || (e != 0))) (r := (l.length : Int) != (r3.length : Int)) rfl rfl (fun hb => gd_of (c := !((r12 != 0) || (e != 0))) (by first | exact hb | (rw [hb]; rfl) | simp_all) (B ((l.length : Int) != (r3.length : Int))))) <| sM (B (((r12 != 0) || (e != 0)) || ((l.length : Int) != (r3.length : Int)))) rfl <| g_val (!(((r12 != 0) || (e != 0)) || ((l.length : Int) != (r3.length : Int)))) (gy_f rfl) (fun hg => x_mv (v := u0_6) rfl) ?_
 refine g_val (!(((r12 != 0) || (e != 0)) || ((l.length : Int) != (r3.length : Int)))) (gy_f rfl) (fun hg => x_lenS T34.und (gd_of (c := !(((r12 != 0) || (e != 0)) || ((l.length : Int) != (r3.length : Int)))) hg (u0_6)) hf18z) <| g_val (!(((r12 != 0) || (e != 0)) || ((l.length : Int) != (r3.length : Int)))) (gy_f rfl) (fun hg => x_mv (v := u0_2) rfl) <| g_val (!(((r12 != 0) || (e != 0)) || ((l.length : Int) != (r3.length : Int)))) (gy_f rfl) (fun hg => x_lenS T22.und (gd_of (c := !(((r12 != 0) || (e != 0)) || ((l.length : Int) != (r3.length : Int)))) hg (u0_2)) (rowSl rfl (H.get (k := 4) rfl) (roLe _ (H.get (k := 5) rfl)) hf9z)) <| g_val (!(((r12 != 0) || (e != 0)) || ((l.length : Int) != (r3.length : Int)))) (gy_f rfl) (fun hg => x_cmp (kd := .i64) (a := (r0.length : Int)) (b := (r3.length : Int)) (r := (r0.length : Int) != (r3.length : Int)) (gd_of (c := !(((r12 != 0) || (e != 0)) || ((l.length : Int) != (r3.length : Int)))) hg (I (r0.length : Int))) (gd_of (c := !(((r12 != 0) || (e != 0)) || ((l.length : Int) != (r3.length : Int)))) hg (I (r3.length : Int))) rfl) <| s_val (x_por (b := (((r12 != 0) || (e != 0)) || ((l.length : Int) != (r3.length : Int)))) (r := (r0.length : Int) != (r3.length : Int)) rfl rfl (fun hb => gd_of (c := !(((r12 != 0) || (e != 0)) || ((l.length : Int) != (r3.length : Int)))) (by first | exact hb | (rw [hb]; rfl) | simp_all) (B ((r0.length : Int) != (r3.length : Int))))) <| s_nil ?_
 refine W.cond ((((r12 != 0) || (e != 0)) || ((l.length : Int) != (r3.length : Int))) || ((r0.length : Int) != (r3.length : Int))) rfl (fun c29z => ?_) (fun c29z => ?_)
 ·replace hM := M.e_t hM c29z
  refine sQ rfl <| sA (B false) rfl <| s_nil ?_
  refine W.ret ?_
  have hr_ := M.e_pure hM
  exact ⟨_, resE_tmp rfl, ⟨false, hr_, rfl, (H.pick [] (by decide) rfl)⟩⟩
 replace hM := M.e_f hM c29z
 refine W.skip <| sQ rfl <| sA (.slice none 0 0) rfl <| s_nil <| sQ rfl <| sA (I 0) rfl <| sA (I 0) rfl <| sA (I 0) rfl <| s_nil <| W.seq ?_
 refine sQ rfl <| sM u0_6 rfl ?_
 have hl30z := (hf18z).len_le
 refine s_val (x_lenS T34.und rfl hf18z) <| sM (I 0) rfl <| s_nil <| W.block ?_
 replace H : St w w19z [cOwn (α := Visit) 88 (.slice none 0 0) ([]), cRo Bs_8, cRo Bs1_7, cOwn (α := Int) 3 u0_5 r4, cBlk nb0_1 [v_numbers, I q12, I q22] 158, cOwn (α := Raw 2) 60 u0_2 rr1_3, cRo Bs2_4] R := H.nilOwn (α := Visit) 88
 obtain ⟨ex31z, hi32z, hk33z⟩ := M.e_bind hM
 obtain ⟨m0_, hi32z⟩ := M.e_iter hi32z
 refine W.loop (fun m σ W => ∃ (s : Nat) (sum : Int) (most : Int) (last : Int) (l2 : List Visit) (v_l2 : Value) (ρ : Env), σ = upds ρ [(1, .int .u8 more), (6, u0_2), (10, u20z), (12, v_l2), (13, I sum), (14, I most), (15, I last), (59, u0_6), (60, I (r0.length : Int)), (61, I (s : Int))] ∧ M.iterN (m_nilometerlaw13_NotesWorked_b0 r3 r0 l) m (s, sum, most, last, l2) = some ex31z ∧ St w W [cOwn (α := Visit) 88 v_l2 l2, cRo Bs_8, cRo Bs1_7, cOwn (α := Int) 3 u0_5 r4, cBlk nb0_1 [v_numbers, I q12, I q22] 158, cOwn (α := Raw 2) 60 u0_2 rr1_3, cRo Bs2_4] R) ?_ ?_
 ·exact ⟨_, 0, 0, 0, 0, [], (.slice none 0 0), _, upds_of _ _ ⟨rfl, rfl, rfl, rfl, rfl, rfl, rfl, rfl, rfl, rfl, trivial⟩, hi32z, H⟩
 rintro m36z σ w34z ⟨s, sum, most, last, l2, v_l2, ρ, rfl, hI35z, H⟩
 obtain ⟨m37z, lt38z, x39z, hM, hN40z⟩ := M.e_iterN hI35z
 simp only [m_nilometerlaw13_NotesWorked_b0] at hM
 clear hI35z
 refine sQ rfl <| sC (s : Int) (r0.length : Int) (decide ((s : Int) < (r0.length : Int))) rfl rfl rfl <| s_nil <| W.seq ?_
 refine W.cond (decide ((s : Int) < (r0.length : Int))) rfl (fun c41z => ?_) (fun c41z => ?_)
 ·replace hM := M.e_t hM c41z
  simp only [qz1, qz2, qz3, qz4, qz5, qz6, ne_eq, qz7] at c41z
  refine W.skip <| W.seq <| W.block <| sQ rfl ?_
  obtain ⟨sd42z, hM⟩ := M.e_gd hM
  refine s_val (x_ix (a := u0_6) (b := I (s : Int)) (v := vat u0_6 1 (Int.toNat (s : Int))) rfl rfl (Sl.ix (α := Int) T34.und T34.size hf18z (by omega) (by omega))) <| s_val (x_ld (p := vat u0_6 1 (Int.toNat (s : Int))) (v := I (r0.getD s 0)) rfl (ld_sc Sc3 (At.mono (Int_at hf18z (i := (s : Int)) (by omega) (by omega)) (roLe _ (H.get (k := 2) rfl))))) <| sA (I (r0.getD s 0)) rfl <| s_nil <| W.seq <| sQ rfl <| sM (I (r0.getD s 0)) rfl <| sC (r0.getD s 0) 0 (decide ((r0.getD s 0) < 0)) rfl rfl rfl <| sM (B (decide ((r0.getD s 0) < 0))) rfl <| g_val (!(decide ((r0.getD s 0) < 0))) (gy_f rfl) (fun hg => x_mv (v := I (r0.getD s 0)) rfl) <| g_val (!(decide ((r0.getD s 0) < 0))) (gy_f rfl) (fun hg => x_mv (v := u0_2) rfl) ?_
  refine g_val (!(decide ((r0.getD s 0) < 0))) (gy_f rfl) (fun hg => x_lenS T22.und (gd_of (c := !(decide ((r0.getD s 0) < 0))) hg (u0_2)) (rowSl rfl (H.get (k := 5) rfl) (roLe _ (H.get (k := 6) rfl)) hf9z)) <| g_val (!(decide ((r0.getD s 0) < 0))) (gy_f rfl) (fun hg => x_cmp (kd := .i64) (a := r0.getD s 0) (b := (r3.length : Int)) (r := decide ((r3.length : Int) ≤ (r0.getD s 0))) (gd_of (c := !(decide ((r0.getD s 0) < 0))) hg (I (r0.getD s 0))) (gd_of (c := !(decide ((r0.getD s 0) < 0))) hg (I (r3.length : Int))) rfl) <| s_val (x_por (b := decide ((r0.getD s 0) < 0)) (r := decide ((r3.length : Int) ≤ (r0.getD s 0))) rfl rfl (fun hb => gd_of (c := !(decide ((r0.getD s 0) < 0))) (by first | exact hb | (rw [hb]; rfl) | simp_all) (B (decide ((r3.length : Int) ≤ (r0.getD s 0)))))) <| s_nil ?_
  refine W.cond ((decide ((r0.getD s 0) < 0)) || (decide ((r3.length : Int) ≤ (r0.getD s 0)))) rfl (fun c44z => ?_) (fun c44z => ?_)
  ·replace hM := M.e_t hM c44z
   refine sQ rfl <| sA (B false) rfl <| s_nil ?_
   refine W.ret ?_
   have hX45z := M.e_inr hM hN40z
   subst hX45z
   replace hM := hk33z
   try dsimp only at hM
   have hr_ := M.e_pure hM
   exact ⟨_, resE_tmp rfl, ⟨false, hr_, rfl, (H.pick [] (by decide) rfl)⟩⟩
  replace hM := M.e_f hM c44z
  refine W.skip <| W.seq <| sQ rfl <| sM u20z rfl <| sM (I (r0.getD s 0)) rfl ?_
  obtain ⟨sd46z, hM⟩ := M.e_gd hM
  refine s_val (x_ix (a := u20z) (b := I (r0.getD s 0)) (v := vat u20z 1 (Int.toNat (r0.getD s 0))) rfl rfl (Sl.ix (α := Int) T34.und T34.size hs21z (by omega) (by omega))) <| s_val (x_ld (p := vat u20z 1 (Int.toNat (r0.getD s 0))) (v := I (l.getD (Int.toNat (r0.getD s 0)) 0)) rfl (ld_sc Sc3 (At.mono (Int_at hs21z (i := r0.getD s 0) (by omega) (by omega)) (roLe _ (H.get (k := 1) rfl))))) <| sC (l.getD (Int.toNat (r0.getD s 0)) 0) (-1) ((l.getD (Int.toNat (r0.getD s 0)) 0) == (-1)) rfl rfl rfl <| s_nil ?_
  refine W.cond ((l.getD (Int.toNat (r0.getD s 0)) 0) == (-1)) rfl (fun c47z => ?_) (fun c47z => ?_)
  ·replace hM := M.e_t hM c47z
   simp only [qz1, qz2, qz3, qz4, qz5, qz6, ne_eq, qz7] at c47z
   refine W.exit ?_
   refine W.region rfl <| sR (s : Int) 1 ((s : Int) + 1) rfl rfl rfl (by omega) <| sM (I ((s : Int) + 1)) rfl <| s_nil ?_
   exact ⟨m37z, lt38z, s + 1, sum, most, last, l2, v_l2, _, upds_of _ _ ⟨rfl, rfl, rfl, rfl, rfl, rfl, rfl, rfl, rfl, rfl, trivial⟩, M.e_inl hM hN40z, H⟩
  replace hM := M.e_f hM c47z
  simp only [qz1, qz2, qz3, qz4, qz5, qz6, ne_eq, qz7] at c47z
  refine W.skip <| sQ rfl <| sM u0_2 rfl <| sM (I (r0.getD s 0)) rfl ?_
  obtain ⟨sd48z, hM⟩ := M.e_gd hM
  refine s_val (x_ix (a := u0_2) (b := I (r0.getD s 0)) (v := vat u0_2 3 (Int.toNat (r0.getD s 0))) rfl rfl (Sl.ix (α := Work) T22.und T22.size (rowSl rfl (H.get (k := 5) rfl) (roLe _ (H.get (k := 6) rfl)) hf9z) (by omega) (by omega))) <| s_val (x_fa (a := vat u0_2 3 (Int.toNat (r0.getD s 0))) (v := fat (vat u0_2 3 (Int.toNat (r0.getD s 0))) 2) rfl (fa_pl Fd60_2 Sz3 (Sl.pl (i := r0.getD s 0) (rowSl rfl (H.get (k := 5) rfl) (roLe _ (H.get (k := 6) rfl)) hf9z) (by omega) (by omega)))) <| s_val (x_ld (p := fat (vat u0_2 3 (Int.toNat (r0.getD s 0))) 2) (v := I ((r3.getD (Int.toNat (r0.getD s 0)) default).minutes)) rfl (ld_sc Sc3 (At.mono (Work_at2 (rowSl rfl (H.get (k := 5) rfl) (roLe _ (H.get (k := 6) rfl)) hf9z) (i := r0.getD s 0) (by omega) (by omega)) (Cells.sup_le (ownLe _ (H.get (k := 5) rfl)) (roLe _ (H.get (k := 6) rfl)))))) <| sA (I ((r3.getD (Int.toNat (r0.getD s 0)) default).minutes)) rfl <| s_nil <| W.seq ?_
  refine W.draw (fun W => St w W [cOwn (α := Visit) 88 v_l2 l2, cRo Bs_8, cRo Bs1_7, cOwn (α := Int) 3 u0_5 r4, cBlk nb0_1 [v_numbers, I q12, I q22] 158, cOwn (α := Raw 2) 60 u0_2 rr1_3, cRo Bs2_4] R) [(0, true), (1, true), (2, true), (3, true), (4, true), (5, true), (6, true), (7, true), (8, true), (9, true), (10, true)] mixed (by decide +kernel) rfl ?_
  intro w49z hx_
  replace H : St w w49z [cOwn (α := Visit) 88 v_l2 l2, cRo Bs_8, cRo Bs1_7, cOwn (α := Int) 3 u0_5 r4, cBlk nb0_1 [v_numbers, I q12, I q22] 158, cOwn (α := Raw 2) 60 u0_2 rr1_3, cRo Bs2_4] R := H.ext hx_
  clear hx_
  refine ⟨(H.pick [0, 1, 2, 3, 4, 5, 6] (by decide) rfl), ?_⟩
  refine d_q rfl (fun w' H => x_mv (v := I sum) rfl) ?_
  refine d_q rfl (fun w' H => x_mv (v := I ((r3.getD (Int.toNat (r0.getD s 0)) default).minutes)) rfl) ?_
  obtain ⟨sd50z, hM⟩ := M.e_gd hM
  refine d_q rfl (fun w' H => x_ari (a := sum) (b := (r3.getD (Int.toNat (r0.getD s 0)) default).minutes) (r := sum + ((r3.getD (Int.toNat (r0.getD s 0)) default).minutes)) rfl rfl rfl (by omega)) ?_
  refine d_q rfl (fun w' H => x_mv (v := I most) rfl) ?_
  refine d_q rfl (fun w' H => x_mv (v := u20z) rfl) ?_
  refine d_q rfl (fun w' H => x_mv (v := I (r0.getD s 0)) rfl) ?_
  refine d_q rfl (fun w' H => x_ix (a := u20z) (b := I (r0.getD s 0)) (v := vat u20z 1 (Int.toNat (r0.getD s 0))) rfl rfl (Sl.ix (α := Int) T34.und T34.size hs21z (by omega) (by omega))) ?_
  refine d_q rfl (fun w' H => x_ld (p := vat u20z 1 (Int.toNat (r0.getD s 0))) (v := I (l.getD (Int.toNat (r0.getD s 0)) 0)) rfl (ld_sc Sc3 (At.mono (Int_at hs21z (i := r0.getD s 0) (by omega) (by omega)) (roLe _ (H.get (k := 1) rfl))))) ?_
  refine d_q rfl (fun w' H => x_max (kd := .i64) (a := most) (b := l.getD (Int.toNat (r0.getD s 0)) 0) rfl rfl) ?_
  refine d_q rfl (fun w' H => x_as (v := I (sum + ((r3.getD (Int.toNat (r0.getD s 0)) default).minutes))) rfl) ?_
  refine d_q rfl (fun w' H => x_as (v := I (max most (l.getD (Int.toNat (r0.getD s 0)) 0))) rfl) ?_
  refine d_nil ?_
  refine W.region rfl <| sM v_l2 rfl <| sM (I ((r3.getD (Int.toNat (r0.getD s 0)) default).minutes)) rfl <| sM (I ((r3.getD (Int.toNat (r0.getD s 0)) default).minutes)) rfl ?_
  obtain ⟨r52z, hx51z, hM⟩ := M.e_bind hM
  refine s_call cf55 [I ((r3.getD (Int.toNat (r0.getD s 0)) default).minutes), I ((r3.getD (Int.toNat (r0.getD s 0)) default).minutes)] rfl (nilometerlaw13_span_ok ((r3.getD (Int.toNat (r0.getD s 0)) default).minutes) ((r3.getD (Int.toNat (r0.getD s 0)) default).minutes) hx51z _ (St.give (T := [cOwn (α := Visit) 88 v_l2 l2, cRo Bs_8, cRo Bs1_7, cOwn (α := Int) 3 u0_5 r4, cBlk nb0_1 [v_numbers, I q12, I q22] 158, cOwn (α := Raw 2) 60 u0_2 rr1_3, cRo Bs2_4]) H rfl)) ?_
  rintro vq w53z ⟨r02, r13, hr54z, hvq, H2_⟩
  subst hr54z
  subst vq
  try dsimp only at hM
  replace H : St w w53z [cOwn (α := Visit) 88 v_l2 l2, cRo Bs_8, cRo Bs1_7, cOwn (α := Int) 3 u0_5 r4, cBlk nb0_1 [v_numbers, I q12, I q22] 158, cOwn (α := Raw 2) 60 u0_2 rr1_3, cRo Bs2_4] R := H.back H2_ rfl
  clear H2_
  refine s_val (x_bld (ps := [(1, .agg #[I r02, I r13]), (3, I 100000)]) (zs := [I 0, I 0, I 0, I 0, I 0, I 0]) (L' := [I 0, I 0, I r02, I r13, I 0, I 100000]) rfl Try.underlying88 Al88 rfl (Bd88 Try.underlying88) (.cons (cs := [I r02, I r13]) rfl rfl rfl rfl rfl <| .cons (cs := [I 100000]) rfl rfl rfl rfl rfl <| .nil)) ?_
  refine t_bs (α := Visit) T83 [.agg #[I 0, I 0, I r02, I r13, I 0, I 100000]] [(⟨(0 : Int), (0 : Int), (r02 : Int), (r13 : Int), (0 : Int), (100000 : Int)⟩ : Visit)] H rfl (.cons rfl (Flat.rep_enc _ (⟨(0 : Int), (0 : Int), (r02 : Int), (r13 : Int), (0 : Int), (100000 : Int)⟩ : Visit)) <| .nil) rfl rfl rfl ?_
  intro v55z w56z H
  obtain ⟨sd57z, hM⟩ := M.e_gd hM
  refine t_app (α := Visit) (k := 1) (l := l2) (l2 := [(⟨(0 : Int), (0 : Int), (r02 : Int), (r13 : Int), (0 : Int), (100000 : Int)⟩ : Visit)]) (l' := l2 ++ ([(⟨(0 : Int), (0 : Int), (r02 : Int), (r13 : Int), (0 : Int), (100000 : Int)⟩ : Visit)])) (vy := v55z) T83 rfl H rfl rfl rfl (ownSl (H.get (k := 0) rfl)) (ownLe _ (H.get (k := 0) rfl)) (rfl) (by first | omega | (simp only [List.length_nil] at *; omega)) ?_
  intro v58z w59z H
  replace H : St w w59z [cOwn (α := Visit) 88 v55z ([(⟨(0 : Int), (0 : Int), (r02 : Int), (r13 : Int), (0 : Int), (100000 : Int)⟩ : Visit)]), cOwn (α := Visit) 88 v58z (l2 ++ ([(⟨(0 : Int), (0 : Int), (r02 : Int), (r13 : Int), (0 : Int), (100000 : Int)⟩ : Visit)])), cRo Bs_8, cRo Bs1_7, cOwn (α := Int) 3 u0_5 r4, cBlk nb0_1 [v_numbers, I q12, I q22] 158, cOwn (α := Raw 2) 60 u0_2 rr1_3, cRo Bs2_4] R := H
  refine sA v58z rfl <| s_nil <| W.region rfl <| sR (s : Int) 1 ((s : Int) + 1) rfl rfl rfl (by omega) <| sM (I ((s : Int) + 1)) rfl <| s_nil ?_
  exact ⟨m37z, lt38z, s + 1, sum + ((r3.getD (Int.toNat (r0.getD s 0)) default).minutes), max most (l.getD (Int.toNat (r0.getD s 0)) 0), (r3.getD (Int.toNat (r0.getD s 0)) default).minutes, l2 ++ ([(⟨(0 : Int), (0 : Int), (r02 : Int), (r13 : Int), (0 : Int), (100000 : Int)⟩ : Visit)]), v58z, _, upds_of _ _ ⟨rfl, rfl, rfl, rfl, rfl, rfl, rfl, rfl, rfl, rfl, trivial⟩, M.e_inl hM hN40z, (H.pick [1, 2, 3, 4, 5, 6, 7] (by decide) rfl)⟩
 replace hM := M.e_f hM c41z
 simp only [qz1, qz2, qz3, qz4, qz5, qz6, ne_eq, qz7] at c41z
 refine W.exit ?_
 have hX60z := M.e_inr hM hN40z
 subst hX60z
 replace hM := hk33z
 try dsimp only at hM
 refine W.seq <| sQ rfl <| sM v_l2 rfl ?_
 have hl61z := ((ownSl (H.get (k := 0) rfl))).len_le
 refine s_val (x_lenS T83.und rfl (ownSl (H.get (k := 0) rfl))) <| sC (l2.length : Int) 0 ((l2.length : Int) == 0) rfl rfl rfl <| s_nil ?_
 refine W.cond ((l2.length : Int) == 0) rfl (fun c62z => ?_) (fun c62z => ?_)
 ·replace hM := M.e_t hM c62z
  simp only [qz1, qz2, qz3, qz4, qz5, qz6, ne_eq, qz7] at c62z
  refine sQ rfl <| sA (B false) rfl <| s_nil ?_
  refine W.ret ?_
  have hr_ := M.e_pure hM
  exact ⟨_, resE_tmp rfl, ⟨false, hr_, rfl, (H.pick [] (by decide) rfl)⟩⟩
 replace hM := M.e_f hM c62z
 simp only [qz1, qz2, qz3, qz4, qz5, qz6, ne_eq, qz7] at c62z
 refine W.skip <| sQ rfl <| sM v_l2 rfl <| sM v_l2 rfl ?_
 have hl63z := ((ownSl (H.get (k := 0) rfl))).len_le
 refine s_val (x_lenS T83.und rfl (ownSl (H.get (k := 0) rfl))) <| sR (l2.length : Int) 1 ((l2.length : Int) - 1) rfl rfl rfl (by omega) <| sM (I sum) rfl <| sM (I last) rfl ?_
 obtain ⟨sd64z, hM⟩ := M.e_gd hM
 refine sR sum last (sum - last) rfl rfl rfl (by omega) <| sM (.int .u8 more) rfl ?_
 obtain ⟨sd65z, hM⟩ := M.e_gd hM
 refine s_val (x_conv64 (kd := .u8) (a := more) Try.underlying5 Try.underlying3 rfl (by omega)) ?_
 obtain ⟨sd66z, hM⟩ := M.e_gd hM
 refine sR (sum - last) more ((sum - last) + more) rfl rfl rfl (by omega) ?_
 obtain ⟨sd67z, hM⟩ := M.e_gd hM
 refine s_val (x_ix (a := v_l2) (b := I ((l2.length : Int) - 1)) (v := vat v_l2 6 (Int.toNat ((l2.length : Int) - 1))) rfl rfl (Sl.ix (α := Visit) T83.und T83.size (ownSl (H.get (k := 0) rfl)) (by omega) (by omega))) <| s_val (x_fa (a := vat v_l2 6 (Int.toNat ((l2.length : Int) - 1))) (v := fat (vat v_l2 6 (Int.toNat ((l2.length : Int) - 1))) 5) rfl (fa_pl Fd88_3 Sz3 (Sl.pl (i := (l2.length : Int) - 1) (ownSl (H.get (k := 0) rfl)) (by omega) (by omega)))) ?_
 refine t_fst (α := Visit) (k := 0) (i := (l2.length : Int) - 1) (off := 5) (l := l2) (l' := l2.set (Int.toNat ((l2.length : Int) - 1)) ({ (l2.getD (Int.toNat ((l2.length : Int) - 1)) default) with cls := (sum - last) + more })) (val := I ((sum - last) + more)) (L' := [cOwn (α := Visit) 88 v_l2 (l2.set (Int.toNat ((l2.length : Int) - 1)) ({ (l2.getD (Int.toNat ((l2.length : Int) - 1)) default) with cls := (sum - last) + more })), cRo Bs_8, cRo Bs1_7, cOwn (α := Int) 3 u0_5 r4, cBlk nb0_1 [v_numbers, I q12, I q22] 158, cOwn (α := Raw 2) 60 u0_2 rr1_3, cRo Bs2_4]) H rfl Sz3 (by omega) (by omega) (l2.getD (Int.toNat ((l2.length : Int) - 1)) default) ({ (l2.getD (Int.toNat ((l2.length : Int) - 1)) default) with cls := (sum - last) + more }) (getD_some _ (by omega) _) rfl rfl [I ((sum - last) + more)] rfl rfl rfl rfl rfl rfl rfl ?_
 intro w68z H
 refine s_nil <| sQ rfl <| sM v_l2 rfl ?_
 obtain ⟨r70z, hx69z, hM⟩ := M.e_bind hM
 refine s_call cf56 [I 0, v_l2] rfl (crew_Hours_ok 0 (l2.set (Int.toNat ((l2.length : Int) - 1)) ({ (l2.getD (Int.toNat ((l2.length : Int) - 1)) default) with cls := (sum - last) + more })) (Reads.of (k := 0) rfl ownLe) (ownSl (H.get (k := 0) rfl)) hx69z _ (St.give (T := [cOwn (α := Visit) 88 v_l2 (l2.set (Int.toNat ((l2.length : Int) - 1)) ({ (l2.getD (Int.toNat ((l2.length : Int) - 1)) default) with cls := (sum - last) + more })), cRo Bs_8, cRo Bs1_7, cOwn (α := Int) 3 u0_5 r4, cBlk nb0_1 [v_numbers, I q12, I q22] 158, cOwn (α := Raw 2) 60 u0_2 rr1_3, cRo Bs2_4]) H rfl)) ?_
 rintro vq w71z ⟨r03, r14, u0_12, hr72z, hvq, H2_⟩
 subst hr72z
 subst vq
 try dsimp only at hM
 replace H : St w w71z [cOwn (α := Span) 85 u0_12 r03, cOwn (α := Visit) 88 v_l2 (l2.set (Int.toNat ((l2.length : Int) - 1)) ({ (l2.getD (Int.toNat ((l2.length : Int) - 1)) default) with cls := (sum - last) + more })), cRo Bs_8, cRo Bs1_7, cOwn (α := Int) 3 u0_5 r4, cBlk nb0_1 [v_numbers, I q12, I q22] 158, cOwn (α := Raw 2) 60 u0_2 rr1_3, cRo Bs2_4] R := H.back H2_ rfl
 clear H2_
 refine sM (.tuple #[u0_12, I r14]) rfl <| sX [u0_12, I r14] u0_12 rfl rfl <| sX [u0_12, I r14] (I r14) rfl rfl <| sA u0_12 rfl <| sA (I r14) rfl <| s_nil <| sQ rfl <| sM v_l2 rfl ?_
 obtain ⟨r74z, hx73z, hM⟩ := M.e_bind hM
 refine s_call cf57 [v_l2] rfl (crew_Latest_ok (l2.set (Int.toNat ((l2.length : Int) - 1)) ({ (l2.getD (Int.toNat ((l2.length : Int) - 1)) default) with cls := (sum - last) + more })) (Reads.of (k := 1) rfl ownLe) (ownSl (H.get (k := 1) rfl)) hx73z _ (St.give (T := [cOwn (α := Span) 85 u0_12 r03, cOwn (α := Visit) 88 v_l2 (l2.set (Int.toNat ((l2.length : Int) - 1)) ({ (l2.getD (Int.toNat ((l2.length : Int) - 1)) default) with cls := (sum - last) + more })), cRo Bs_8, cRo Bs1_7, cOwn (α := Int) 3 u0_5 r4, cBlk nb0_1 [v_numbers, I q12, I q22] 158, cOwn (α := Raw 2) 60 u0_2 rr1_3, cRo Bs2_4]) H rfl)) ?_
 rintro vq w75z ⟨r04, r15, hr76z, hvq, H2_⟩
 subst hr76z
 subst vq
 try dsimp only at hM
 replace H : St w w75z [cOwn (α := Span) 85 u0_12 r03, cOwn (α := Visit) 88 v_l2 (l2.set (Int.toNat ((l2.length : Int) - 1)) ({ (l2.getD (Int.toNat ((l2.length : Int) - 1)) default) with cls := (sum - last) + more })), cRo Bs_8, cRo Bs1_7, cOwn (α := Int) 3 u0_5 r4, cBlk nb0_1 [v_numbers, I q12, I q22] 158, cOwn (α := Raw 2) 60 u0_2 rr1_3, cRo Bs2_4] R := H.back H2_ rfl
 clear H2_
 refine sM (.tuple #[I r04, I r15]) rfl <| sX [I r04, I r15] (I r04) rfl rfl <| sX [I r04, I r15] (I r15) rfl rfl <| sA (I r04) rfl <| sA (I r15) rfl <| s_nil <| W.seq <| sQ rfl <| sM (I r14) rfl <| sC r14 0 (r14 != 0) rfl rfl rfl <| sM (B (r14 != 0)) rfl ?_
 refine g_val (!(r14 != 0)) (gy_f rfl) (fun hg => x_mv (v := I r15) rfl) <| g_val (!(r14 != 0)) (gy_f rfl) (fun hg => x_cmp (kd := .i64) (a := r15) (b := 0) (r := r15 != 0) (gd_of (c := !(r14 != 0)) hg (I r15)) rfl rfl) <| s_val (x_por (b := r14 != 0) (r := r15 != 0) rfl rfl (fun hb => gd_of (c := !(r14 != 0)) (by first | exact hb | (rw [hb]; rfl) | simp_all) (B (r15 != 0)))) <| sM (B ((r14 != 0) || (r15 != 0))) rfl <| g_val (!((r14 != 0) || (r15 != 0))) (gy_f rfl) (fun hg => x_mv (v := u0_12) rfl) <| g_val (!((r14 != 0) || (r15 != 0))) (gy_f rfl) (fun hg => x_lenS T89.und (gd_of (c := !((r14 != 0) || (r15 != 0))) hg (u0_12)) (ownSl (H.get (k := 0) rfl))) <| g_val (!((r14 != 0) || (r15 != 0))) (gy_f rfl) (fun hg => x_mv (v := v_l2) rfl) <| g_val (!((r14 != 0) || (r15 != 0))) (gy_f rfl) (fun hg => x_lenS T83.und (gd_of (c := !((r14 != 0) || (r15 != 0))) hg (v_l2)) (ownSl (H.get (k := 1) rfl))) <| g_val (!((r14 != 0) || (r15 != 0))) (gy_f rfl) (fun hg => x_cmp (kd := .i64) (a := (r03.length : Int)) (b := ((l2.set (Int.toNat ((l2.length : Int) - 1)) ({ (l2.getD (Int.toNat ((l2.length : Int) - 1)) default) with cls := (sum - last) + more })).length : Int)) (r := (r03.length : Int) != ((l2.set (Int.toNat ((l2.length : Int) - 1)) ({ (l2.getD (Int.toNat ((l2.length : Int) - 1)) default) with cls := (sum - last) + more })).length : Int)) (gd_of (c := !((r14 != 0) || (r15 != 0))) hg (I (r03.length : Int))) (gd_of (c := !((r14 != 0) || (r15 != 0))) hg (I ((l2.set (Int.toNat ((l2.length : Int) - 1)) ({ (l2.getD (Int.toNat ((l2.length : Int) - 1)) default) with cls := (sum - last) + more })).length : Int))) rfl) <| s_val (x_por (b := ((r14 != 0) || (r15 != 0))) (r := (r03.length : Int) != ((l2.set (Int.toNat ((l2.length : Int) - 1)) ({ (l2.getD (Int.toNat ((l2.length : Int) - 1)) default) with cls := (sum - last) + more })).length : Int)) rfl rfl (fun hb => gd_of (c := !((r14 != 0) || (r15 != 0))) (by first | exact hb | (rw [hb]; rfl) | simp_all) (B ((r03.length : Int) != ((l2.set (Int.toNat ((l2.length : Int) - 1)) ({ (l2.getD (Int.toNat ((l2.length : Int) - 1)) default) with cls := (sum - last) + more })).length : Int))))) <| s_nil ?_
 refine W.cond (((r14 != 0) || (r15 != 0)) || ((r03.length : Int) != ((l2.set (Int.toNat ((l2.length : Int) - 1)) ({ (l2.getD (Int.toNat ((l2.length : Int) - 1)) default) with cls := (sum - last) + more })).length : Int))) rfl (fun c79z => ?_) (fun c79z => ?_)
 ·replace hM := M.e_t hM c79z
  refine sQ rfl <| sA (B false) rfl <| s_nil ?_
  refine W.ret ?_
  have hr_ := M.e_pure hM
  exact ⟨_, resE_tmp rfl, ⟨false, hr_, rfl, (H.pick [] (by decide) rfl)⟩⟩
 replace hM := M.e_f hM c79z
 refine W.skip <| sQ rfl <| sM u0_12 rfl <| sM u0_12 rfl ?_
 have hl80z := ((ownSl (H.get (k := 0) rfl))).len_le
 refine s_val (x_lenS T89.und rfl (ownSl (H.get (k := 0) rfl))) <| sR (r03.length : Int) 1 ((r03.length : Int) - 1) rfl rfl rfl (by omega) ?_
 obtain ⟨sd81z, hM⟩ := M.e_gd hM
 refine s_val (x_ix (a := u0_12) (b := I ((r03.length : Int) - 1)) (v := vat u0_12 2 (Int.toNat ((r03.length : Int) - 1))) rfl rfl (Sl.ix (α := Span) T89.und T89.size (ownSl (H.get (k := 0) rfl)) (by omega) (by omega))) <| s_val (x_fa (a := vat u0_12 2 (Int.toNat ((r03.length : Int) - 1))) (v := fat (vat u0_12 2 (Int.toNat ((r03.length : Int) - 1))) 1) rfl (fa_pl Fd85_1 Sz3 (Sl.pl (i := (r03.length : Int) - 1) (ownSl (H.get (k := 0) rfl)) (by omega) (by omega)))) <| s_val (x_ld (p := fat (vat u0_12 2 (Int.toNat ((r03.length : Int) - 1))) 1) (v := I ((r03.getD (Int.toNat ((r03.length : Int) - 1)) default).hi)) rfl (ld_sc Sc3 (At.mono (Span_at1 (ownSl (H.get (k := 0) rfl)) (i := (r03.length : Int) - 1) (by omega) (by omega)) (ownLe _ (H.get (k := 0) rfl))))) <| sM (I last) rfl ?_
 obtain ⟨sd82z, hM⟩ := M.e_gd hM
 refine sR ((r03.getD (Int.toNat ((r03.length : Int) - 1)) default).hi) last (((r03.getD (Int.toNat ((r03.length : Int) - 1)) default).hi) + last) rfl rfl rfl (by omega) <| sA (I (((r03.getD (Int.toNat ((r03.length : Int) - 1)) default).hi) + last)) rfl <| s_nil <| sQ rfl <| sM (I (((r03.getD (Int.toNat ((r03.length : Int) - 1)) default).hi) + last)) rfl <| sM (I sum) rfl <| sC (((r03.getD (Int.toNat ((r03.length : Int) - 1)) default).hi) + last) sum ((((r03.getD (Int.toNat ((r03.length : Int) - 1)) default).hi) + last) == sum) rfl rfl rfl <| sM (B ((((r03.getD (Int.toNat ((r03.length : Int) - 1)) default).hi) + last) == sum)) rfl <| g_val ((((r03.getD (Int.toNat ((r03.length : Int) - 1)) default).hi) + last) == sum) (gy_t rfl) (fun hg => x_mv (v := I (((r03.getD (Int.toNat ((r03.length : Int) - 1)) default).hi) + last)) rfl) <| g_val ((((r03.getD (Int.toNat ((r03.length : Int) - 1)) default).hi) + last) == sum) (gy_t rfl) (fun hg => x_mv (v := I most) rfl) <| g_val ((((r03.getD (Int.toNat ((r03.length : Int) - 1)) default).hi) + last) == sum) (gy_t rfl) (fun hg => x_cmp (kd := .i64) (a := ((r03.getD (Int.toNat ((r03.length : Int) - 1)) default).hi) + last) (b := most) (r := decide (most ≤ (((r03.getD (Int.toNat ((r03.length : Int) - 1)) default).hi) + last))) (gd_of (c := (((r03.getD (Int.toNat ((r03.length : Int) - 1)) default).hi) + last) == sum) hg (I (((r03.getD (Int.toNat ((r03.length : Int) - 1)) default).hi) + last))) (gd_of (c := (((r03.getD (Int.toNat ((r03.length : Int) - 1)) default).hi) + last) == sum) hg (I most)) rfl) ?_
 refine s_val (x_pand (b := (((r03.getD (Int.toNat ((r03.length : Int) - 1)) default).hi) + last) == sum) (r := decide (most ≤ (((r03.getD (Int.toNat ((r03.length : Int) - 1)) default).hi) + last))) rfl (fun hb => gd_of (c := (((r03.getD (Int.toNat ((r03.length : Int) - 1)) default).hi) + last) == sum) (by first | exact hb | (rw [hb]; rfl) | simp_all) (B (decide (most ≤ (((r03.getD (Int.toNat ((r03.length : Int) - 1)) default).hi) + last))))) rfl) <| sM (B (((((r03.getD (Int.toNat ((r03.length : Int) - 1)) default).hi) + last) == sum) && (decide (most ≤ (((r03.getD (Int.toNat ((r03.length : Int) - 1)) default).hi) + last))))) rfl <| g_val (((((r03.getD (Int.toNat ((r03.length : Int) - 1)) default).hi) + last) == sum) && (decide (most ≤ (((r03.getD (Int.toNat ((r03.length : Int) - 1)) default).hi) + last)))) (gy_t rfl) (fun hg => x_mv (v := I r04) rfl) <| g_val (((((r03.getD (Int.toNat ((r03.length : Int) - 1)) default).hi) + last) == sum) && (decide (most ≤ (((r03.getD (Int.toNat ((r03.length : Int) - 1)) default).hi) + last)))) (gy_t rfl) (fun hg => x_mv (v := .int .u8 more) rfl) <| g_val (((((r03.getD (Int.toNat ((r03.length : Int) - 1)) default).hi) + last) == sum) && (decide (most ≤ (((r03.getD (Int.toNat ((r03.length : Int) - 1)) default).hi) + last)))) (gy_t rfl) (fun hg => x_conv64 (kd := .u8) (a := more) Try.underlying5 Try.underlying3 (gd_of (c := (((((r03.getD (Int.toNat ((r03.length : Int) - 1)) default).hi) + last) == sum) && (decide (most ≤ (((r03.getD (Int.toNat ((r03.length : Int) - 1)) default).hi) + last))))) hg (.int .u8 more)) (by first | omega | (have hx_ := hg; simp at hx_; omega))) <| g_val (((((r03.getD (Int.toNat ((r03.length : Int) - 1)) default).hi) + last) == sum) && (decide (most ≤ (((r03.getD (Int.toNat ((r03.length : Int) - 1)) default).hi) + last)))) (gy_t rfl) (fun hg => x_cmp (kd := .i64) (a := r04) (b := more) (r := r04 == more) (gd_of (c := (((((r03.getD (Int.toNat ((r03.length : Int) - 1)) default).hi) + last) == sum) && (decide (most ≤ (((r03.getD (Int.toNat ((r03.length : Int) - 1)) default).hi) + last))))) hg (I r04)) (gd_of (c := (((((r03.getD (Int.toNat ((r03.length : Int) - 1)) default).hi) + last) == sum) && (decide (most ≤ (((r03.getD (Int.toNat ((r03.length : Int) - 1)) default).hi) + last))))) hg (I more)) rfl) <| s_val (x_pand (b := (((((r03.getD (Int.toNat ((r03.length : Int) - 1)) default).hi) + last) == sum) && (decide (most ≤ (((r03.getD (Int.toNat ((r03.length : Int) - 1)) default).hi) + last))))) (r := r04 == more) rfl (fun hb => gd_of (c := (((((r03.getD (Int.toNat ((r03.length : Int) - 1)) default).hi) + last) == sum) && (decide (most ≤ (((r03.getD (Int.toNat ((r03.length : Int) - 1)) default).hi) + last))))) (by first | exact hb | (rw [hb]; rfl) | simp_all) (B (r04 == more))) rfl) <| sM (B ((((((r03.getD (Int.toNat ((r03.length : Int) - 1)) default).hi) + last) == sum) && (decide (most ≤ (((r03.getD (Int.toNat ((r03.length : Int) - 1)) default).hi) + last)))) && (r04 == more))) rfl ?_
 obtain ⟨r5, hx83z, hM⟩ := M.e_bind hM
 refine t_gcall ((((((r03.getD (Int.toNat ((r03.length : Int) - 1)) default).hi) + last) == sum) && (decide (most ≤ (((r03.getD (Int.toNat ((r03.length : Int) - 1)) default).hi) + last)))) && (r04 == more)) (gy_t rfl) cf17 (B r5) (fun _ => []) (fun _ => rfl) H (fun hg => (nilometerlaw13_awake_ok (M.e_opt hx83z hg) _ (H.give (A := []) rfl)).mono fun v_ w_ ⟨y_, hr_, hv_, H_⟩ => by subst hr_; exact ⟨hv_, H.via H_⟩) ?_
 intro w84z H
 refine s_val (x_pand (b := ((((((r03.getD (Int.toNat ((r03.length : Int) - 1)) default).hi) + last) == sum) && (decide (most ≤ (((r03.getD (Int.toNat ((r03.length : Int) - 1)) default).hi) + last)))) && (r04 == more))) (r := r5) rfl (fun hb => gd_of (c := ((((((r03.getD (Int.toNat ((r03.length : Int) - 1)) default).hi) + last) == sum) && (decide (most ≤ (((r03.getD (Int.toNat ((r03.length : Int) - 1)) default).hi) + last)))) && (r04 == more))) (by first | exact hb | (rw [hb]; rfl) | simp_all) (B r5)) rfl) <| sA (B (((((((r03.getD (Int.toNat ((r03.length : Int) - 1)) default).hi) + last) == sum) && (decide (most ≤ (((r03.getD (Int.toNat ((r03.length : Int) - 1)) default).hi) + last)))) && (r04 == more)) && r5)) rfl <| s_nil ?_
 refine W.ret ?_
 have hr_ := M.e_pure hM
 exact ⟨_, resE_tmp rfl, ⟨(((((((r03.getD (Int.toNat ((r03.length : Int) - 1)) default).hi) + last) == sum) && (decide (most ≤ (((r03.getD (Int.toNat ((r03.length : Int) - 1)) default).hi) + last)))) && (r04 == more)) && r5), hr_, rfl, (H.pick [] (by decide) rfl)⟩⟩

end Go.Proofs.Ytndobgodeicloaa
end
