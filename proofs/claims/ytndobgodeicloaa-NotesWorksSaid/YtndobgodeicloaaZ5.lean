/- Part 5 of the texts on which the proof rests. Conditions: none. -/
import Derived.Laws.Cover3
import Derived.Test.YtndobgodeicloaaZ4
set_option linter.unusedVariables false
set_option linter.unusedSimpArgs false
set_option linter.unusedSectionVars false
section
set_option maxRecDepth 100000
set_option maxHeartbeats 16000000
namespace Go.Proofs.Ytndobgodeicloaa
open Go Go.Nm
def m_nilometerlaw13_awake : M Bool :=
  M.bind (m_nilometerlaw13_Six) fun r2 =>
  M.bind (M.pure (valuesR r2 ([(⟨(0 : Int), (2 : Int), (7 : Int)⟩ : Note), (⟨(1 : Int), (0 : Int), (9 : Int)⟩ : Note)]), valuesE r2 ([(⟨(0 : Int), (2 : Int), (7 : Int)⟩ : Note), (⟨(1 : Int), (0 : Int), (9 : Int)⟩ : Note)]))) fun (l, e) =>
  M.bind (m_nilometerlaw13_Six) fun r3 =>
  M.bind (M.pure (staleR r3 ([(0 : Int)]), askedE r3 ([(0 : Int)]))) fun (l2, e2) =>
  M.bind (m_nilometerlaw13_Six) fun r4 =>
  M.bind (M.pure (readyR r4 ([(1 : Int)]), askedE r4 ([(1 : Int)]))) fun (l3, e3) =>
  M.bind (m_nilometerlaw13_Six) fun r5 =>
  M.bind (M.pure (longestR r5 ([(0 : Int)]), longestE r5 ([(0 : Int)]))) fun (l4, e4) =>
  M.bind (M.pure (decide (l = ([(7 : Int), (9 : Int), (26 : Int), (10 : Int), (47 : Int), (48 : Int)])))) fun s =>
  M.bind (M.pure (decide (l2 = ([(0 : Int), (2 : Int), (4 : Int), (5 : Int)])))) fun s2 =>
  M.bind (M.pure (decide (l3 = ([(-1 : Int), (6 : Int), (16 : Int), (36 : Int), (56 : Int), (57 : Int)])))) fun s3 =>
  M.bind (M.pure (decide (l4 = ([(0 : Int), (2 : Int), (4 : Int), (5 : Int)])))) fun s4 =>
  bif ((((((((e != 0) || (e2 != 0)) || (e3 != 0)) || (e4 != 0)) || (!s)) || (!s2)) || (!s3)) || (!s4)) then (
  M.pure false)
  else (
  M.bind (m_nilometerlaw13_Six) fun r6 =>
  M.bind (m_notes_Fences r6 ([(0 : Int)]) ([(0 : Int), (2 : Int), (4 : Int), (5 : Int)])) fun (r0, r1) =>
  M.bind (m_nilometerlaw13_Six) fun r7 =>
  M.bind (m_notes_Fences r7 ([(0 : Int)]) ([(0 : Int), (2 : Int), (4 : Int)])) fun (r02, r12) =>
  M.bind (m_nilometerlaw13_Six) fun r8 =>
  M.bind (m_notes_Freeze r8 ([(1 : Int)]) 4) fun (r03, r13) =>
  M.bind (m_nilometerlaw13_Six) fun r9 =>
  M.bind (m_notes_Lines r9 ([(1 : Int)]) 4) fun (r04, r14) =>
  M.bind (m_nilometerlaw13_Six) fun r10 =>
  M.bind (m_notes_Freeze r10 ([(1 : Int)]) 3) fun (r05, r15) =>
  M.bind (M.pure (decide (r03 = ([(2 : Int), (3 : Int)])))) fun s5 =>
  bif (((((((((r1 != 0) || (r12 != 0)) || (r13 != 0)) || (r14 != 0)) || (r15 != 5)) || (!r0)) || r02) || (!s5)) || ((r04.length : Int) != 2)) then (
  M.pure false)
  else (
  M.bind (m_nilometerlaw13_Six) fun r11 =>
  M.bind (M.pure (withdrawnR r11 ([(⟨(0 : Int), (3 : Int), (8 : Int)⟩ : Note), (⟨(0 : Int), (2 : Int), (7 : Int)⟩ : Note), (⟨(1 : Int), (0 : Int), (9 : Int)⟩ : Note)]) ([(⟨(2 : Int), (26 : Int)⟩ : Pub), (⟨(3 : Int), (10 : Int)⟩ : Pub)]), withdrawnE r11 ([(⟨(0 : Int), (3 : Int), (8 : Int)⟩ : Note), (⟨(0 : Int), (2 : Int), (7 : Int)⟩ : Note), (⟨(1 : Int), (0 : Int), (9 : Int)⟩ : Note)]) ([(⟨(2 : Int), (26 : Int)⟩ : Pub), (⟨(3 : Int), (10 : Int)⟩ : Pub)]))) fun (l5, e5) =>
  M.bind (M.pure (decide (l5 = ([(0 : Int)])))) fun s6 =>
  M.pure ((e5 == 0) && s6)))
theorem nilometerlaw13_awake_ok {R : List Chunk}    {r : Bool} (hM : (m_nilometerlaw13_awake).Ends r) (w : World) (H : St w w [] R) : Ret Try.prog 17 #[] w fun v w' => ∃ (y0 : Bool), y0 = r ∧ v = B y0 ∧ St w w' [] R := by
 refine ret_of_W Try.func17 rfl rfl rfl ?_
 refine sQ rfl <| sA (B false) rfl <| s_nil <| sQ rfl ?_
 obtain ⟨r2z, hx1z, hM⟩ := M.e_bind hM
 refine s_call cf79 [] rfl (nilometerlaw13_Six_ok hx1z _ (St.give (T := []) H rfl)) ?_
 rintro vq w3z ⟨r2, u0_1, rr1_2, Bs2_3, hr4z, hvq, H2_, hf5z⟩
 subst hr4z
 subst vq
 try dsimp only at hM
 replace H : St w w3z [cOwn (α := Raw 2) 60 u0_1 rr1_2, cRo Bs2_3] R := H.back H2_ rfl
 clear H2_
 refine s_val (x_bld (ps := [(0, I 0), (1, I 2), (2, I 7)]) (zs := [I 0, I 0, I 0]) (L' := [I 0, I 2, I 7]) rfl Try.underlying30 Al30 rfl (Bd30 Try.underlying30) (.cons (cs := [I 0]) rfl rfl rfl rfl rfl <| .cons (cs := [I 2]) rfl rfl rfl rfl rfl <| .cons (cs := [I 7]) rfl rfl rfl rfl rfl <| .nil)) <| s_val (x_bld (ps := [(0, I 1), (2, I 9)]) (zs := [I 0, I 0, I 0]) (L' := [I 1, I 0, I 9]) rfl Try.underlying30 Al30 rfl (Bd30 Try.underlying30) (.cons (cs := [I 1]) rfl rfl rfl rfl rfl <| .cons (cs := [I 9]) rfl rfl rfl rfl rfl <| .nil)) ?_
 refine t_bs (α := Note) T23 [.agg #[I 0, I 2, I 7], .agg #[I 1, I 0, I 9]] [(⟨(0 : Int), (2 : Int), (7 : Int)⟩ : Note), (⟨(1 : Int), (0 : Int), (9 : Int)⟩ : Note)] H rfl (.cons rfl (Flat.rep_enc _ (⟨(0 : Int), (2 : Int), (7 : Int)⟩ : Note)) <| .cons rfl (Flat.rep_enc _ (⟨(1 : Int), (0 : Int), (9 : Int)⟩ : Note)) <| .nil) rfl rfl rfl ?_
 intro v6z w7z H
 obtain ⟨⟨l, e⟩, hx11z, hM⟩ := M.e_bind hM
 obtain ⟨hq12z, hq13z⟩ := Prod.mk.inj (M.e_pure hx11z)
 try dsimp only at hM
 refine s_call cf21 [u0_1, v6z] rfl (by have hc_ := (Values_any _ ((rowSl rfl (H.get (k := 1) rfl) (roLe _ (H.get (k := 2) rfl)) hf5z).mono (Cells.sup_le (ownLe _ (H.get (k := 1) rfl)) (roLe _ (H.get (k := 2) rfl)))) ((ownSl (H.get (k := 0) rfl)).mono (ownLe _ (H.get (k := 0) rfl)))); rw [hq12z, hq13z] at hc_; exact hc_) ?_
 rintro _ w8z ⟨u9z, rfl, hs10z, hx_⟩
 obtain ⟨Bs_5, H, hs10z⟩ := H.fresh hx_ hs10z
 clear hx_
 have hl_hs10z := hs10z.len_le
 refine sM (.tuple #[u9z, I e]) rfl <| sX [u9z, I e] u9z rfl rfl <| sX [u9z, I e] (I e) rfl rfl <| sA u9z rfl <| sA (I e) rfl <| s_nil <| sQ rfl ?_
 obtain ⟨r15z, hx14z, hM⟩ := M.e_bind hM
 refine s_call cf79 [] rfl (nilometerlaw13_Six_ok hx14z _ (St.give (T := [cRo Bs_5, cOwn (α := Note) 30 v6z ([(⟨(0 : Int), (2 : Int), (7 : Int)⟩ : Note), (⟨(1 : Int), (0 : Int), (9 : Int)⟩ : Note)]), cOwn (α := Raw 2) 60 u0_1 rr1_2, cRo Bs2_3]) H rfl)) ?_
 rintro vq w16z ⟨r3, u0_6, rr1_7, Bs2_8, hr17z, hvq, H2_, hf18z⟩
 subst hr17z
 subst vq
 try dsimp only at hM
 replace H : St w w16z [cOwn (α := Raw 2) 60 u0_6 rr1_7, cRo Bs2_8, cRo Bs_5, cOwn (α := Note) 30 v6z ([(⟨(0 : Int), (2 : Int), (7 : Int)⟩ : Note), (⟨(1 : Int), (0 : Int), (9 : Int)⟩ : Note)]), cOwn (α := Raw 2) 60 u0_1 rr1_2, cRo Bs2_3] R := H.back H2_ rfl
 clear H2_
 refine t_bs (α := Int) T34 [I 0] [(0 : Int)] H rfl (.cons rfl (Flat.rep_enc _ (0 : Int)) <| .nil) rfl rfl rfl ?_
 intro v19z w20z H
 obtain ⟨⟨l2, e2⟩, hx24z, hM⟩ := M.e_bind hM
 obtain ⟨hq25z, hq26z⟩ := Prod.mk.inj (M.e_pure hx24z)
 try dsimp only at hM
 refine s_call cf32 [u0_6, v19z] rfl (by have hc_ := (Stale_any _ ((rowSl rfl (H.get (k := 1) rfl) (roLe _ (H.get (k := 2) rfl)) hf18z).mono (Cells.sup_le (ownLe _ (H.get (k := 1) rfl)) (roLe _ (H.get (k := 2) rfl)))) ((ownSl (H.get (k := 0) rfl)).mono (ownLe _ (H.get (k := 0) rfl)))); rw [hq25z, hq26z] at hc_; exact hc_) ?_
 rintro _ w21z ⟨u22z, rfl, hs23z, hx_⟩
 obtain ⟨Bs_10, H, hs23z⟩ := H.fresh hx_ hs23z
 clear hx_
 have hl_hs23z := hs23z.len_le
 refine sM (.tuple #[u22z, I e2]) rfl <| sX [u22z, I e2] u22z rfl rfl <| sX [u22z, I e2] (I e2) rfl rfl <| sA u22z rfl <| sA (I e2) rfl <| s_nil <| sQ rfl ?_
 obtain ⟨r28z, hx27z, hM⟩ := M.e_bind hM
 refine s_call cf79 [] rfl (nilometerlaw13_Six_ok hx27z _ (St.give (T := [cRo Bs_10, cOwn (α := Int) 3 v19z ([(0 : Int)]), cOwn (α := Raw 2) 60 u0_6 rr1_7, cRo Bs2_8, cRo Bs_5, cOwn (α := Note) 30 v6z ([(⟨(0 : Int), (2 : Int), (7 : Int)⟩ : Note), (⟨(1 : Int), (0 : Int), (9 : Int)⟩ : Note)]), cOwn (α := Raw 2) 60 u0_1 rr1_2, cRo Bs2_3]) H rfl)) ?_
 rintro vq w29z ⟨r4, u0_11, rr1_12, Bs2_13, hr30z, hvq, H2_, hf31z⟩
 subst hr30z
 subst vq
 try dsimp only at hM
 replace H : St w w29z [cOwn (α := Raw 2) 60 u0_11 rr1_12, cRo Bs2_13, cRo Bs_10, cOwn (α := Int) 3 v19z ([(0 : Int)]), cOwn (α := Raw 2) 60 u0_6 rr1_7, cRo Bs2_8, cRo Bs_5, cOwn (α := Note) 30 v6z ([(⟨(0 : Int), (2 : Int), (7 : Int)⟩ : Note), (⟨(1 : Int), (0 : Int), (9 : Int)⟩ : Note)]), cOwn (α := Raw 2) 60 u0_1 rr1_2, cRo Bs2_3] R := H.back H2_ rfl
 clear H2_
 refine t_bs (α := Int) T34 [I 1] [(1 : Int)] H rfl (.cons rfl (Flat.rep_enc _ (1 : Int)) <| .nil) rfl rfl rfl ?_
 intro v32z w33z H
 obtain ⟨⟨l3, e3⟩, hx37z, hM⟩ := M.e_bind hM
 obtain ⟨hq38z, hq39z⟩ := Prod.mk.inj (M.e_pure hx37z)
 try dsimp only at hM
 refine s_call cf36 [u0_11, v32z] rfl (by have hc_ := (Ready_any _ ((rowSl rfl (H.get (k := 1) rfl) (roLe _ (H.get (k := 2) rfl)) hf31z).mono (Cells.sup_le (ownLe _ (H.get (k := 1) rfl)) (roLe _ (H.get (k := 2) rfl)))) ((ownSl (H.get (k := 0) rfl)).mono (ownLe _ (H.get (k := 0) rfl)))); rw [hq38z, hq39z] at hc_; exact hc_) ?_
 rintro _ w34z ⟨u35z, rfl, hs36z, hx_⟩
 obtain ⟨Bs_15, H, hs36z⟩ := H.fresh hx_ hs36z
 clear hx_
 have hl_hs36z := hs36z.len_le
 refine sM (.tuple #[u35z, I e3]) rfl <| sX [u35z, I e3] u35z rfl rfl <| sX [u35z, I e3] (I e3) rfl rfl <| sA u35z rfl <| sA (I e3) rfl <| s_nil <| sQ rfl ?_
 obtain ⟨r41z, hx40z, hM⟩ := M.e_bind hM
 refine s_call cf79 [] rfl (nilometerlaw13_Six_ok hx40z _ (St.give (T := [cRo Bs_15, cOwn (α := Int) 3 v32z ([(1 : Int)]), cOwn (α := Raw 2) 60 u0_11 rr1_12, cRo Bs2_13, cRo Bs_10, cOwn (α := Int) 3 v19z ([(0 : Int)]), cOwn (α := Raw 2) 60 u0_6 rr1_7, cRo Bs2_8, cRo Bs_5, cOwn (α := Note) 30 v6z ([(⟨(0 : Int), (2 : Int), (7 : Int)⟩ : Note), (⟨(1 : Int), (0 : Int), (9 : Int)⟩ : Note)]), cOwn (α := Raw 2) 60 u0_1 rr1_2, cRo Bs2_3]) H rfl)) ?_
 rintro vq w42z ⟨r5, u0_16, rr1_17, Bs2_18, hr43z, hvq, H2_, hf44z⟩
 subst hr43z
 subst vq
 try dsimp only at hM
 replace H : St w w42z [cOwn (α := Raw 2) 60 u0_16 rr1_17, cRo Bs2_18, cRo Bs_15, cOwn (α := Int) 3 v32z ([(1 : Int)]), cOwn (α := Raw 2) 60 u0_11 rr1_12, cRo Bs2_13, cRo Bs_10, cOwn (α := Int) 3 v19z ([(0 : Int)]), cOwn (α := Raw 2) 60 u0_6 rr1_7, cRo Bs2_8, cRo Bs_5, cOwn (α := Note) 30 v6z ([(⟨(0 : Int), (2 : Int), (7 : Int)⟩ : Note), (⟨(1 : Int), (0 : Int), (9 : Int)⟩ : Note)]), cOwn (α := Raw 2) 60 u0_1 rr1_2, cRo Bs2_3] R := H.back H2_ rfl
 clear H2_
 refine t_bs (α := Int) T34 [I 0] [(0 : Int)] H rfl (.cons rfl (Flat.rep_enc _ (0 : Int)) <| .nil) rfl rfl rfl ?_
 intro v45z w46z H
 obtain ⟨⟨l4, e4⟩, hx50z, hM⟩ := M.e_bind hM
 obtain ⟨hq51z, hq52z⟩ := Prod.mk.inj (M.e_pure hx50z)
 try dsimp only at hM
 refine s_call cf38 [u0_16, v45z] rfl (by have hc_ := (Longest_any _ ((rowSl rfl (H.get (k := 1) rfl) (roLe _ (H.get (k := 2) rfl)) hf44z).mono (Cells.sup_le (ownLe _ (H.get (k := 1) rfl)) (roLe _ (H.get (k := 2) rfl)))) ((ownSl (H.get (k := 0) rfl)).mono (ownLe _ (H.get (k := 0) rfl)))); rw [hq51z, hq52z] at hc_; exact hc_) ?_
 rintro _ w47z ⟨u48z, rfl, hs49z, hx_⟩
 obtain ⟨Bs_20, H, hs49z⟩ := H.fresh hx_ hs49z
 clear hx_
 have hl_hs49z := hs49z.len_le
 refine sM (.tuple #[u48z, I e4]) rfl <| sX [u48z, I e4] u48z rfl rfl <| sX [u48z, I e4] (I e4) rfl rfl <| sA u48z rfl <| sA (I e4) rfl <| s_nil <| W.seq <| sQ rfl <| sM (I e) rfl <| sC e 0 (e != 0) rfl rfl rfl <| sM (B (e != 0)) rfl ?_
 refine g_val (!(e != 0)) (gy_f rfl) (fun hg => x_mv (v := I e2) rfl) <| g_val (!(e != 0)) (gy_f rfl) (fun hg => x_cmp (kd := .i64) (a := e2) (b := 0) (r := e2 != 0) (gd_of (c := !(e != 0)) hg (I e2)) rfl rfl) <| s_val (x_por (b := e != 0) (r := e2 != 0) rfl rfl (fun hb => gd_of (c := !(e != 0)) (by first | exact hb | (rw [hb]; rfl) | simp_all) (B (e2 != 0)))) <| sM (B ((e != 0) || (e2 != 0))) rfl <| g_val (!((e != 0) || (e2 != 0))) (gy_f rfl) (fun hg => x_mv (v := I e3) rfl) <| g_val (!((e != 0) || (e2 != 0))) (gy_f rfl) (fun hg => x_cmp (kd := .i64) (a := e3) (b := 0) (r := e3 != 0) (gd_of (c := !((e != 0) || (e2 != 0))) hg (I e3)) rfl rfl) <| s_val (x_por (b := ((e != 0) || (e2 != 0))) (r := e3 != 0) rfl rfl (fun hb => gd_of (c := !((e != 0) || (e2 != 0))) (by first | exact hb | (rw [hb]; rfl) | simp_all) (B (e3 != 0)))) <| sM (B (((e != 0) || (e2 != 0)) || (e3 != 0))) rfl <| g_val (!(((e != 0) || (e2 != 0)) || (e3 != 0))) (gy_f rfl) (fun hg => x_mv (v := I e4) rfl) <| g_val (!(((e != 0) || (e2 != 0)) || (e3 != 0))) (gy_f rfl) (fun hg => x_cmp (kd := .i64) (a := e4) (b := 0) (r := e4 != 0) (gd_of (c := !(((e != 0) || (e2 != 0)) || (e3 != 0))) hg (I e4)) rfl rfl) <| s_val (x_por (b := (((e != 0) || (e2 != 0)) || (e3 != 0))) (r := e4 != 0) rfl rfl (fun hb => gd_of (c := !(((e != 0) || (e2 != 0)) || (e3 != 0))) (by first | exact hb | (rw [hb]; rfl) | simp_all) (B (e4 != 0)))) <| sM (B ((((e != 0) || (e2 != 0)) || (e3 != 0)) || (e4 != 0))) rfl ?_
 refine g_val (!((((e != 0) || (e2 != 0)) || (e3 != 0)) || (e4 != 0))) (gy_f rfl) (fun hg => x_mv (v := u9z) rfl) ?_
 refine t_gbs (α := Int) T34 (!((((e != 0) || (e2 != 0)) || (e3 != 0)) || (e4 != 0))) (gy_f rfl) [I 7, I 9, I 26, I 10, I 47, I 48] [(7 : Int), (9 : Int), (26 : Int), (10 : Int), (47 : Int), (48 : Int)] H (fun _ => rfl) (.cons rfl (Flat.rep_enc _ _) <| .cons rfl (Flat.rep_enc _ _) <| .cons rfl (Flat.rep_enc _ _) <| .cons rfl (Flat.rep_enc _ _) <| .cons rfl (Flat.rep_enc _ _) <| .cons rfl (Flat.rep_enc _ _) <| .nil) rfl rfl rfl ?_
 intro v53z Bs_21 w54z H hf55z
 obtain ⟨s, hx56z, hM⟩ := M.e_bind hM
 replace hx56z := M.e_pure hx56z
 refine t_gcall (!((((e != 0) || (e2 != 0)) || (e3 != 0)) || (e4 != 0))) (gy_f rfl) cf25 (B s) (fun _ => [u9z, v53z]) (fun hg => lst2 (gd_of (c := !((((e != 0) || (e2 != 0)) || (e3 != 0)) || (e4 != 0))) hg (u9z)) (gd_of (c := !((((e != 0) || (e2 != 0)) || (e3 != 0)) || (e4 != 0))) hg (v53z))) H (fun hg => Ret.mono (same_int _ (hs10z.mono (roLe _ (H.get (k := 13) rfl))) ((hf55z hg).mono (roLe _ (H.get (k := 0) rfl)))) fun v_ w_ ⟨hv_, hx_⟩ => ⟨hv_.trans (congrArg B hx56z), H.ext hx_⟩) ?_
 intro w57z H
 refine g_val (!((((e != 0) || (e2 != 0)) || (e3 != 0)) || (e4 != 0))) (gy_f rfl) (fun hg => x_not (b := s) (gd_of (c := !((((e != 0) || (e2 != 0)) || (e3 != 0)) || (e4 != 0))) hg (B s))) <| s_val (x_por (b := ((((e != 0) || (e2 != 0)) || (e3 != 0)) || (e4 != 0))) (r := !s) rfl rfl (fun hb => gd_of (c := !((((e != 0) || (e2 != 0)) || (e3 != 0)) || (e4 != 0))) (by first | exact hb | (rw [hb]; rfl) | simp_all) (B (!s)))) <| sM (B (((((e != 0) || (e2 != 0)) || (e3 != 0)) || (e4 != 0)) || (!s))) rfl <| g_val (!(((((e != 0) || (e2 != 0)) || (e3 != 0)) || (e4 != 0)) || (!s))) (gy_f rfl) (fun hg => x_mv (v := u22z) rfl) ?_
 refine t_gbs (α := Int) T34 (!(((((e != 0) || (e2 != 0)) || (e3 != 0)) || (e4 != 0)) || (!s))) (gy_f rfl) [I 0, I 2, I 4, I 5] [(0 : Int), (2 : Int), (4 : Int), (5 : Int)] H (fun _ => rfl) (.cons rfl (Flat.rep_enc _ _) <| .cons rfl (Flat.rep_enc _ _) <| .cons rfl (Flat.rep_enc _ _) <| .cons rfl (Flat.rep_enc _ _) <| .nil) rfl rfl rfl ?_
 intro v58z Bs_22 w59z H hf60z
 obtain ⟨s2, hx61z, hM⟩ := M.e_bind hM
 replace hx61z := M.e_pure hx61z
 refine t_gcall (!(((((e != 0) || (e2 != 0)) || (e3 != 0)) || (e4 != 0)) || (!s))) (gy_f rfl) cf25 (B s2) (fun _ => [u22z, v58z]) (fun hg => lst2 (gd_of (c := !(((((e != 0) || (e2 != 0)) || (e3 != 0)) || (e4 != 0)) || (!s))) hg (u22z)) (gd_of (c := !(((((e != 0) || (e2 != 0)) || (e3 != 0)) || (e4 != 0)) || (!s))) hg (v58z))) H (fun hg => Ret.mono (same_int _ (hs23z.mono (roLe _ (H.get (k := 10) rfl))) ((hf60z hg).mono (roLe _ (H.get (k := 0) rfl)))) fun v_ w_ ⟨hv_, hx_⟩ => ⟨hv_.trans (congrArg B hx61z), H.ext hx_⟩) ?_
 intro w62z H
 refine g_val (!(((((e != 0) || (e2 != 0)) || (e3 != 0)) || (e4 != 0)) || (!s))) (gy_f rfl) (fun hg => x_not (b := s2) (gd_of (c := !(((((e != 0) || (e2 != 0)) || (e3 != 0)) || (e4 != 0)) || (!s))) hg (B s2))) <| s_val (x_por (b := (((((e != 0) || (e2 != 0)) || (e3 != 0)) || (e4 != 0)) || (!s))) (r := !s2) rfl rfl (fun hb => gd_of (c := !(((((e != 0) || (e2 != 0)) || (e3 != 0)) || (e4 != 0)) || (!s))) (by first | exact hb | (rw [hb]; rfl) | simp_all) (B (!s2)))) <| sM (B ((((((e != 0) || (e2 != 0)) || (e3 != 0)) || (e4 != 0)) || (!s)) || (!s2))) rfl <| g_val (!((((((e != 0) || (e2 != 0)) || (e3 != 0)) || (e4 != 0)) || (!s)) || (!s2))) (gy_f rfl) (fun hg => x_mv (v := u35z) rfl) ?_
 refine t_gbs (α := Int) T34 (!((((((e != 0) || (e2 != 0)) || (e3 != 0)) || (e4 != 0)) || (!s)) || (!s2))) (gy_f rfl) [I (-1), I 6, I 16, I 36, I 56, I 57] [(-1 : Int), (6 : Int), (16 : Int), (36 : Int), (56 : Int), (57 : Int)] H (fun _ => rfl) (.cons rfl (Flat.rep_enc _ _) <| .cons rfl (Flat.rep_enc _ _) <| .cons rfl (Flat.rep_enc _ _) <| .cons rfl (Flat.rep_enc _ _) <| .cons rfl (Flat.rep_enc _ _) <| .cons rfl (Flat.rep_enc _ _) <| .nil) rfl rfl rfl ?_
 intro v63z Bs_23 w64z H hf65z
 obtain ⟨s3, hx66z, hM⟩ := M.e_bind hM
 replace hx66z := M.e_pure hx66z
 refine t_gcall (!((((((e != 0) || (e2 != 0)) || (e3 != 0)) || (e4 != 0)) || (!s)) || (!s2))) (gy_f rfl) cf25 (B s3) (fun _ => [u35z, v63z]) (fun hg => lst2 (gd_of (c := !((((((e != 0) || (e2 != 0)) || (e3 != 0)) || (e4 != 0)) || (!s)) || (!s2))) hg (u35z)) (gd_of (c := !((((((e != 0) || (e2 != 0)) || (e3 != 0)) || (e4 != 0)) || (!s)) || (!s2))) hg (v63z))) H (fun hg => Ret.mono (same_int _ (hs36z.mono (roLe _ (H.get (k := 7) rfl))) ((hf65z hg).mono (roLe _ (H.get (k := 0) rfl)))) fun v_ w_ ⟨hv_, hx_⟩ => ⟨hv_.trans (congrArg B hx66z), H.ext hx_⟩) ?_
 intro w67z H
 refine g_val (!((((((e != 0) || (e2 != 0)) || (e3 != 0)) || (e4 != 0)) || (!s)) || (!s2))) (gy_f rfl) (fun hg => x_not (b := s3) (gd_of (c := !((((((e != 0) || (e2 != 0)) || (e3 != 0)) || (e4 != 0)) || (!s)) || (!s2))) hg (B s3))) <| s_val (x_por (b := ((((((e != 0) || (e2 != 0)) || (e3 != 0)) || (e4 != 0)) || (!s)) || (!s2))) (r := !s3) rfl rfl (fun hb => gd_of (c := !((((((e != 0) || (e2 != 0)) || (e3 != 0)) || (e4 != 0)) || (!s)) || (!s2))) (by first | exact hb | (rw [hb]; rfl) | simp_all) (B (!s3)))) <| sM (B (((((((e != 0) || (e2 != 0)) || (e3 != 0)) || (e4 != 0)) || (!s)) || (!s2)) || (!s3))) rfl <| g_val (!(((((((e != 0) || (e2 != 0)) || (e3 != 0)) || (e4 != 0)) || (!s)) || (!s2)) || (!s3))) (gy_f rfl) (fun hg => x_mv (v := u48z) rfl) ?_
 refine t_gbs (α := Int) T34 (!(((((((e != 0) || (e2 != 0)) || (e3 != 0)) || (e4 != 0)) || (!s)) || (!s2)) || (!s3))) (gy_f rfl) [I 0, I 2, I 4, I 5] [(0 : Int), (2 : Int), (4 : Int), (5 : Int)] H (fun _ => rfl) (.cons rfl (Flat.rep_enc _ _) <| .cons rfl (Flat.rep_enc _ _) <| .cons rfl (Flat.rep_enc _ _) <| .cons rfl (Flat.rep_enc _ _) <| .nil) rfl rfl rfl ?_
 intro v68z Bs_24 w69z H hf70z
 obtain ⟨s4, hx71z, hM⟩ := M.e_bind hM
 replace hx71z := M.e_pure hx71z
 refine t_gcall (!(((((((e != 0) || (e2 != 0)) || (e3 != 0)) || (e4 != 0)) || (!s)) || (!s2)) || (!s3))) (gy_f rfl) cf25 (B s4) (fun _ => [u48z, v68z]) (fun hg => lst2 (gd_of (c := !(((((((e != 0) || (e2 != 0)) || (e3 != 0)) || (e4 != 0)) || (!s)) || (!s2)) || (!s3))) hg (u48z)) (gd_of (c := !(((((((e != 0) || (e2 != 0)) || (e3 != 0)) || (e4 != 0)) || (!s)) || (!s2)) || (!s3))) hg (v68z))) H (fun hg => Ret.mono (same_int _ (hs49z.mono (roLe _ (H.get (k := 4) rfl))) ((hf70z hg).mono (roLe _ (H.get (k := 0) rfl)))) fun v_ w_ ⟨hv_, hx_⟩ => ⟨hv_.trans (congrArg B hx71z), H.ext hx_⟩) ?_
 intro w72z H
 refine g_val (!(((((((e != 0) || (e2 != 0)) || (e3 != 0)) || (e4 != 0)) || (!s)) || (!s2)) || (!s3))) (gy_f rfl) (fun hg => x_not (b := s4) (gd_of (c := !(((((((e != 0) || (e2 != 0)) || (e3 != 0)) || (e4 != 0)) || (!s)) || (!s2)) || (!s3))) hg (B s4))) <| s_val (x_por (b := (((((((e != 0) || (e2 != 0)) || (e3 != 0)) || (e4 != 0)) || (!s)) || (!s2)) || (!s3))) (r := !s4) rfl rfl (fun hb => gd_of (c := !(((((((e != 0) || (e2 != 0)) || (e3 != 0)) || (e4 != 0)) || (!s)) || (!s2)) || (!s3))) (by first | exact hb | (rw [hb]; rfl) | simp_all) (B (!s4)))) <| s_nil ?_
 refine W.cond ((((((((e != 0) || (e2 != 0)) || (e3 != 0)) || (e4 != 0)) || (!s)) || (!s2)) || (!s3)) || (!s4)) rfl (fun c73z => ?_) (fun c73z => ?_)
 ·replace hM := M.e_t hM c73z
  refine sQ rfl <| sA (B false) rfl <| s_nil ?_
  refine W.ret ?_
  have hr_ := M.e_pure hM
  exact ⟨_, resE_tmp rfl, ⟨false, hr_, rfl, (H.pick [] (by decide) rfl)⟩⟩
 replace hM := M.e_f hM c73z
 refine W.skip <| sQ rfl ?_
 obtain ⟨r75z, hx74z, hM⟩ := M.e_bind hM
 refine s_call cf79 [] rfl (nilometerlaw13_Six_ok hx74z _ (St.give (T := [cRo Bs_24, cRo Bs_23, cRo Bs_22, cRo Bs_21, cRo Bs_20, cOwn (α := Int) 3 v45z ([(0 : Int)]), cOwn (α := Raw 2) 60 u0_16 rr1_17, cRo Bs2_18, cRo Bs_15, cOwn (α := Int) 3 v32z ([(1 : Int)]), cOwn (α := Raw 2) 60 u0_11 rr1_12, cRo Bs2_13, cRo Bs_10, cOwn (α := Int) 3 v19z ([(0 : Int)]), cOwn (α := Raw 2) 60 u0_6 rr1_7, cRo Bs2_8, cRo Bs_5, cOwn (α := Note) 30 v6z ([(⟨(0 : Int), (2 : Int), (7 : Int)⟩ : Note), (⟨(1 : Int), (0 : Int), (9 : Int)⟩ : Note)]), cOwn (α := Raw 2) 60 u0_1 rr1_2, cRo Bs2_3]) H rfl)) ?_
 rintro vq w76z ⟨r6, u0_25, rr1_26, Bs2_27, hr77z, hvq, H2_, hf78z⟩
 subst hr77z
 subst vq
 try dsimp only at hM
 replace H : St w w76z [cOwn (α := Raw 2) 60 u0_25 rr1_26, cRo Bs2_27, cRo Bs_24, cRo Bs_23, cRo Bs_22, cRo Bs_21, cRo Bs_20, cOwn (α := Int) 3 v45z ([(0 : Int)]), cOwn (α := Raw 2) 60 u0_16 rr1_17, cRo Bs2_18, cRo Bs_15, cOwn (α := Int) 3 v32z ([(1 : Int)]), cOwn (α := Raw 2) 60 u0_11 rr1_12, cRo Bs2_13, cRo Bs_10, cOwn (α := Int) 3 v19z ([(0 : Int)]), cOwn (α := Raw 2) 60 u0_6 rr1_7, cRo Bs2_8, cRo Bs_5, cOwn (α := Note) 30 v6z ([(⟨(0 : Int), (2 : Int), (7 : Int)⟩ : Note), (⟨(1 : Int), (0 : Int), (9 : Int)⟩ : Note)]), cOwn (α := Raw 2) 60 u0_1 rr1_2, cRo Bs2_3] R := H.back H2_ rfl
 clear H2_
 refine t_bs (α := Int) T34 [I 0] [(0 : Int)] H rfl (.cons rfl (Flat.rep_enc _ (0 : Int)) <| .nil) rfl rfl rfl ?_
 intro v79z w80z H
 refine t_bs (α := Int) T34 [I 0, I 2, I 4, I 5] [(0 : Int), (2 : Int), (4 : Int), (5 : Int)] H rfl (.cons rfl (Flat.rep_enc _ (0 : Int)) <| .cons rfl (Flat.rep_enc _ (2 : Int)) <| .cons rfl (Flat.rep_enc _ (4 : Int)) <| .cons rfl (Flat.rep_enc _ (5 : Int)) <| .nil) rfl rfl rfl ?_
 intro v81z w82z H
 obtain ⟨r84z, hx83z, hM⟩ := M.e_bind hM
 refine s_call cf34 [u0_25, v79z, v81z] rfl (notes_Fences_ok r6 ([(0 : Int)]) ([(0 : Int), (2 : Int), (4 : Int), (5 : Int)]) (Reads.sup (Reads.of (k := 2) rfl ownLe) (Reads.of (k := 3) rfl roLe)) (rowSl rfl (H.get (k := 2) rfl) (roLe _ (H.get (k := 3) rfl)) hf78z) (Reads.of (k := 1) rfl ownLe) (ownSl (H.get (k := 1) rfl)) (Reads.of (k := 0) rfl ownLe) (ownSl (H.get (k := 0) rfl)) hx83z _ (St.give (T := [cOwn (α := Int) 3 v81z ([(0 : Int), (2 : Int), (4 : Int), (5 : Int)]), cOwn (α := Int) 3 v79z ([(0 : Int)]), cOwn (α := Raw 2) 60 u0_25 rr1_26, cRo Bs2_27, cRo Bs_24, cRo Bs_23, cRo Bs_22, cRo Bs_21, cRo Bs_20, cOwn (α := Int) 3 v45z ([(0 : Int)]), cOwn (α := Raw 2) 60 u0_16 rr1_17, cRo Bs2_18, cRo Bs_15, cOwn (α := Int) 3 v32z ([(1 : Int)]), cOwn (α := Raw 2) 60 u0_11 rr1_12, cRo Bs2_13, cRo Bs_10, cOwn (α := Int) 3 v19z ([(0 : Int)]), cOwn (α := Raw 2) 60 u0_6 rr1_7, cRo Bs2_8, cRo Bs_5, cOwn (α := Note) 30 v6z ([(⟨(0 : Int), (2 : Int), (7 : Int)⟩ : Note), (⟨(1 : Int), (0 : Int), (9 : Int)⟩ : Note)]), cOwn (α := Raw 2) 60 u0_1 rr1_2, cRo Bs2_3]) H rfl)) ?_
 rintro vq w85z ⟨r0, r1, hr86z, hvq, H2_⟩
 subst hr86z
 subst vq
 try dsimp only at hM
 replace H : St w w85z [cOwn (α := Int) 3 v81z ([(0 : Int), (2 : Int), (4 : Int), (5 : Int)]), cOwn (α := Int) 3 v79z ([(0 : Int)]), cOwn (α := Raw 2) 60 u0_25 rr1_26, cRo Bs2_27, cRo Bs_24, cRo Bs_23, cRo Bs_22, cRo Bs_21, cRo Bs_20, cOwn (α := Int) 3 v45z ([(0 : Int)]), cOwn (α := Raw 2) 60 u0_16 rr1_17, cRo Bs2_18, cRo Bs_15, cOwn (α := Int) 3 v32z ([(1 : Int)]), cOwn (α := Raw 2) 60 u0_11 rr1_12, cRo Bs2_13, cRo Bs_10, cOwn (α := Int) 3 v19z ([(0 : Int)]), cOwn (α := Raw 2) 60 u0_6 rr1_7, cRo Bs2_8, cRo Bs_5, cOwn (α := Note) 30 v6z ([(⟨(0 : Int), (2 : Int), (7 : Int)⟩ : Note), (⟨(1 : Int), (0 : Int), (9 : Int)⟩ : Note)]), cOwn (α := Raw 2) 60 u0_1 rr1_2, cRo Bs2_3] R := H.back H2_ rfl
 clear H2_
 refine sM (.tuple #[B r0, I r1]) rfl <| sX [B r0, I r1] (B r0) rfl rfl <| sX [B r0, I r1] (I r1) rfl rfl <| sA (B r0) rfl <| sA (I r1) rfl <| s_nil <| sQ rfl ?_
 obtain ⟨r88z, hx87z, hM⟩ := M.e_bind hM
 refine s_call cf79 [] rfl (nilometerlaw13_Six_ok hx87z _ (St.give (T := [cOwn (α := Int) 3 v81z ([(0 : Int), (2 : Int), (4 : Int), (5 : Int)]), cOwn (α := Int) 3 v79z ([(0 : Int)]), cOwn (α := Raw 2) 60 u0_25 rr1_26, cRo Bs2_27, cRo Bs_24, cRo Bs_23, cRo Bs_22, cRo Bs_21, cRo Bs_20, cOwn (α := Int) 3 v45z ([(0 : Int)]), cOwn (α := Raw 2) 60 u0_16 rr1_17, cRo Bs2_18, cRo Bs_15, cOwn (α := Int) 3 v32z ([(1 : Int)]), cOwn (α := Raw 2) 60 u0_11 rr1_12, cRo Bs2_13, cRo Bs_10, cOwn (α := Int) 3 v19z ([(0 : Int)]), cOwn (α := Raw 2) 60 u0_6 rr1_7, cRo Bs2_8, cRo Bs_5, cOwn (α := Note) 30 v6z ([(⟨(0 : Int), (2 : Int), (7 : Int)⟩ : Note), (⟨(1 : Int), (0 : Int), (9 : Int)⟩ : Note)]), cOwn (α := Raw 2) 60 u0_1 rr1_2, cRo Bs2_3]) H rfl)) ?_
 rintro vq w89z ⟨r7, u0_30, rr1_31, Bs2_32, hr90z, hvq, H2_, hf91z⟩
 subst hr90z
 subst vq
 try dsimp only at hM
 replace H : St w w89z [cOwn (α := Raw 2) 60 u0_30 rr1_31, cRo Bs2_32, cOwn (α := Int) 3 v81z ([(0 : Int), (2 : Int), (4 : Int), (5 : Int)]), cOwn (α := Int) 3 v79z ([(0 : Int)]), cOwn (α := Raw 2) 60 u0_25 rr1_26, cRo Bs2_27, cRo Bs_24, cRo Bs_23, cRo Bs_22, cRo Bs_21, cRo Bs_20, cOwn (α := Int) 3 v45z ([(0 : Int)]), cOwn (α := Raw 2) 60 u0_16 rr1_17, cRo Bs2_18, cRo Bs_15, cOwn (α := Int) 3 v32z ([(1 : Int)]), cOwn (α := Raw 2) 60 u0_11 rr1_12, cRo Bs2_13, cRo Bs_10, cOwn (α := Int) 3 v19z ([(0 : Int)]), cOwn (α := Raw 2) 60 u0_6 rr1_7, cRo Bs2_8, cRo Bs_5, cOwn (α := Note) 30 v6z ([(⟨(0 : Int), (2 : Int), (7 : Int)⟩ : Note), (⟨(1 : Int), (0 : Int), (9 : Int)⟩ : Note)]), cOwn (α := Raw 2) 60 u0_1 rr1_2, cRo Bs2_3] R := H.back H2_ rfl
 clear H2_
 refine t_bs (α := Int) T34 [I 0] [(0 : Int)] H rfl (.cons rfl (Flat.rep_enc _ (0 : Int)) <| .nil) rfl rfl rfl ?_
 intro v92z w93z H
 refine t_bs (α := Int) T34 [I 0, I 2, I 4] [(0 : Int), (2 : Int), (4 : Int)] H rfl (.cons rfl (Flat.rep_enc _ (0 : Int)) <| .cons rfl (Flat.rep_enc _ (2 : Int)) <| .cons rfl (Flat.rep_enc _ (4 : Int)) <| .nil) rfl rfl rfl ?_
 intro v94z w95z H
 obtain ⟨r97z, hx96z, hM⟩ := M.e_bind hM
 refine s_call cf34 [u0_30, v92z, v94z] rfl (notes_Fences_ok r7 ([(0 : Int)]) ([(0 : Int), (2 : Int), (4 : Int)]) (Reads.sup (Reads.of (k := 2) rfl ownLe) (Reads.of (k := 3) rfl roLe)) (rowSl rfl (H.get (k := 2) rfl) (roLe _ (H.get (k := 3) rfl)) hf91z) (Reads.of (k := 1) rfl ownLe) (ownSl (H.get (k := 1) rfl)) (Reads.of (k := 0) rfl ownLe) (ownSl (H.get (k := 0) rfl)) hx96z _ (St.give (T := [cOwn (α := Int) 3 v94z ([(0 : Int), (2 : Int), (4 : Int)]), cOwn (α := Int) 3 v92z ([(0 : Int)]), cOwn (α := Raw 2) 60 u0_30 rr1_31, cRo Bs2_32, cOwn (α := Int) 3 v81z ([(0 : Int), (2 : Int), (4 : Int), (5 : Int)]), cOwn (α := Int) 3 v79z ([(0 : Int)]), cOwn (α := Raw 2) 60 u0_25 rr1_26, cRo Bs2_27, cRo Bs_24, cRo Bs_23, cRo Bs_22, cRo Bs_21, cRo Bs_20, cOwn (α := Int) 3 v45z ([(0 : Int)]), cOwn (α := Raw 2) 60 u0_16 rr1_17, cRo Bs2_18, cRo Bs_15, cOwn (α := Int) 3 v32z ([(1 : Int)]), cOwn (α := Raw 2) 60 u0_11 rr1_12, cRo Bs2_13, cRo Bs_10, cOwn (α := Int) 3 v19z ([(0 : Int)]), cOwn (α := Raw 2) 60 u0_6 rr1_7, cRo Bs2_8, cRo Bs_5, cOwn (α := Note) 30 v6z ([(⟨(0 : Int), (2 : Int), (7 : Int)⟩ : Note), (⟨(1 : Int), (0 : Int), (9 : Int)⟩ : Note)]), cOwn (α := Raw 2) 60 u0_1 rr1_2, cRo Bs2_3]) H rfl)) ?_
 rintro vq w98z ⟨r02, r12, hr99z, hvq, H2_⟩
 subst hr99z
 subst vq
 try dsimp only at hM
 replace H : St w w98z [cOwn (α := Int) 3 v94z ([(0 : Int), (2 : Int), (4 : Int)]), cOwn (α := Int) 3 v92z ([(0 : Int)]), cOwn (α := Raw 2) 60 u0_30 rr1_31, cRo Bs2_32, cOwn (α := Int) 3 v81z ([(0 : Int), (2 : Int), (4 : Int), (5 : Int)]), cOwn (α := Int) 3 v79z ([(0 : Int)]), cOwn (α := Raw 2) 60 u0_25 rr1_26, cRo Bs2_27, cRo Bs_24, cRo Bs_23, cRo Bs_22, cRo Bs_21, cRo Bs_20, cOwn (α := Int) 3 v45z ([(0 : Int)]), cOwn (α := Raw 2) 60 u0_16 rr1_17, cRo Bs2_18, cRo Bs_15, cOwn (α := Int) 3 v32z ([(1 : Int)]), cOwn (α := Raw 2) 60 u0_11 rr1_12, cRo Bs2_13, cRo Bs_10, cOwn (α := Int) 3 v19z ([(0 : Int)]), cOwn (α := Raw 2) 60 u0_6 rr1_7, cRo Bs2_8, cRo Bs_5, cOwn (α := Note) 30 v6z ([(⟨(0 : Int), (2 : Int), (7 : Int)⟩ : Note), (⟨(1 : Int), (0 : Int), (9 : Int)⟩ : Note)]), cOwn (α := Raw 2) 60 u0_1 rr1_2, cRo Bs2_3] R := H.back H2_ rfl
 clear H2_
 refine sM (.tuple #[B r02, I r12]) rfl <| sX [B r02, I r12] (B r02) rfl rfl <| sX [B r02, I r12] (I r12) rfl rfl <| sA (B r02) rfl <| sA (I r12) rfl <| s_nil <| sQ rfl ?_
 obtain ⟨r101z, hx100z, hM⟩ := M.e_bind hM
 refine s_call cf79 [] rfl (nilometerlaw13_Six_ok hx100z _ (St.give (T := [cOwn (α := Int) 3 v94z ([(0 : Int), (2 : Int), (4 : Int)]), cOwn (α := Int) 3 v92z ([(0 : Int)]), cOwn (α := Raw 2) 60 u0_30 rr1_31, cRo Bs2_32, cOwn (α := Int) 3 v81z ([(0 : Int), (2 : Int), (4 : Int), (5 : Int)]), cOwn (α := Int) 3 v79z ([(0 : Int)]), cOwn (α := Raw 2) 60 u0_25 rr1_26, cRo Bs2_27, cRo Bs_24, cRo Bs_23, cRo Bs_22, cRo Bs_21, cRo Bs_20, cOwn (α := Int) 3 v45z ([(0 : Int)]), cOwn (α := Raw 2) 60 u0_16 rr1_17, cRo Bs2_18, cRo Bs_15, cOwn (α := Int) 3 v32z ([(1 : Int)]), cOwn (α := Raw 2) 60 u0_11 rr1_12, cRo Bs2_13, cRo Bs_10, cOwn (α := Int) 3 v19z ([(0 : Int)]), cOwn (α := Raw 2) 60 u0_6 rr1_7, cRo Bs2_8, cRo Bs_5, cOwn (α := Note) 30 v6z ([(⟨(0 : Int), (2 : Int), (7 : Int)⟩ : Note), (⟨(1 : Int), (0 : Int), (9 : Int)⟩ : Note)]), cOwn (α := Raw 2) 60 u0_1 rr1_2, cRo Bs2_3]) H rfl)) ?_
 rintro vq w102z ⟨r8, u0_35, rr1_36, Bs2_37, hr103z, hvq, H2_, hf104z⟩
 subst hr103z
 subst vq
 try dsimp only at hM
 replace H : St w w102z [cOwn (α := Raw 2) 60 u0_35 rr1_36, cRo Bs2_37, cOwn (α := Int) 3 v94z ([(0 : Int), (2 : Int), (4 : Int)]), cOwn (α := Int) 3 v92z ([(0 : Int)]), cOwn (α := Raw 2) 60 u0_30 rr1_31, cRo Bs2_32, cOwn (α := Int) 3 v81z ([(0 : Int), (2 : Int), (4 : Int), (5 : Int)]), cOwn (α := Int) 3 v79z ([(0 : Int)]), cOwn (α := Raw 2) 60 u0_25 rr1_26, cRo Bs2_27, cRo Bs_24, cRo Bs_23, cRo Bs_22, cRo Bs_21, cRo Bs_20, cOwn (α := Int) 3 v45z ([(0 : Int)]), cOwn (α := Raw 2) 60 u0_16 rr1_17, cRo Bs2_18, cRo Bs_15, cOwn (α := Int) 3 v32z ([(1 : Int)]), cOwn (α := Raw 2) 60 u0_11 rr1_12, cRo Bs2_13, cRo Bs_10, cOwn (α := Int) 3 v19z ([(0 : Int)]), cOwn (α := Raw 2) 60 u0_6 rr1_7, cRo Bs2_8, cRo Bs_5, cOwn (α := Note) 30 v6z ([(⟨(0 : Int), (2 : Int), (7 : Int)⟩ : Note), (⟨(1 : Int), (0 : Int), (9 : Int)⟩ : Note)]), cOwn (α := Raw 2) 60 u0_1 rr1_2, cRo Bs2_3] R := H.back H2_ rfl
 clear H2_
 refine t_bs (α := Int) T34 [I 1] [(1 : Int)] H rfl (.cons rfl (Flat.rep_enc _ (1 : Int)) <| .nil) rfl rfl rfl ?_
 intro v105z w106z H
 obtain ⟨r108z, hx107z, hM⟩ := M.e_bind hM
 refine s_call cf64 [u0_35, v105z, I 4] rfl (notes_Freeze_ok r8 ([(1 : Int)]) 4 (Reads.sup (Reads.of (k := 1) rfl ownLe) (Reads.of (k := 2) rfl roLe)) (rowSl rfl (H.get (k := 1) rfl) (roLe _ (H.get (k := 2) rfl)) hf104z) (Reads.of (k := 0) rfl ownLe) (ownSl (H.get (k := 0) rfl)) hx107z _ (St.give (T := [cOwn (α := Int) 3 v105z ([(1 : Int)]), cOwn (α := Raw 2) 60 u0_35 rr1_36, cRo Bs2_37, cOwn (α := Int) 3 v94z ([(0 : Int), (2 : Int), (4 : Int)]), cOwn (α := Int) 3 v92z ([(0 : Int)]), cOwn (α := Raw 2) 60 u0_30 rr1_31, cRo Bs2_32, cOwn (α := Int) 3 v81z ([(0 : Int), (2 : Int), (4 : Int), (5 : Int)]), cOwn (α := Int) 3 v79z ([(0 : Int)]), cOwn (α := Raw 2) 60 u0_25 rr1_26, cRo Bs2_27, cRo Bs_24, cRo Bs_23, cRo Bs_22, cRo Bs_21, cRo Bs_20, cOwn (α := Int) 3 v45z ([(0 : Int)]), cOwn (α := Raw 2) 60 u0_16 rr1_17, cRo Bs2_18, cRo Bs_15, cOwn (α := Int) 3 v32z ([(1 : Int)]), cOwn (α := Raw 2) 60 u0_11 rr1_12, cRo Bs2_13, cRo Bs_10, cOwn (α := Int) 3 v19z ([(0 : Int)]), cOwn (α := Raw 2) 60 u0_6 rr1_7, cRo Bs2_8, cRo Bs_5, cOwn (α := Note) 30 v6z ([(⟨(0 : Int), (2 : Int), (7 : Int)⟩ : Note), (⟨(1 : Int), (0 : Int), (9 : Int)⟩ : Note)]), cOwn (α := Raw 2) 60 u0_1 rr1_2, cRo Bs2_3]) H rfl)) ?_
 rintro vq w109z ⟨r03, r13, u0_39, hr110z, hvq, H2_⟩
 subst hr110z
 subst vq
 try dsimp only at hM
 replace H : St w w109z [cOwn (α := Int) 3 u0_39 r03, cOwn (α := Int) 3 v105z ([(1 : Int)]), cOwn (α := Raw 2) 60 u0_35 rr1_36, cRo Bs2_37, cOwn (α := Int) 3 v94z ([(0 : Int), (2 : Int), (4 : Int)]), cOwn (α := Int) 3 v92z ([(0 : Int)]), cOwn (α := Raw 2) 60 u0_30 rr1_31, cRo Bs2_32, cOwn (α := Int) 3 v81z ([(0 : Int), (2 : Int), (4 : Int), (5 : Int)]), cOwn (α := Int) 3 v79z ([(0 : Int)]), cOwn (α := Raw 2) 60 u0_25 rr1_26, cRo Bs2_27, cRo Bs_24, cRo Bs_23, cRo Bs_22, cRo Bs_21, cRo Bs_20, cOwn (α := Int) 3 v45z ([(0 : Int)]), cOwn (α := Raw 2) 60 u0_16 rr1_17, cRo Bs2_18, cRo Bs_15, cOwn (α := Int) 3 v32z ([(1 : Int)]), cOwn (α := Raw 2) 60 u0_11 rr1_12, cRo Bs2_13, cRo Bs_10, cOwn (α := Int) 3 v19z ([(0 : Int)]), cOwn (α := Raw 2) 60 u0_6 rr1_7, cRo Bs2_8, cRo Bs_5, cOwn (α := Note) 30 v6z ([(⟨(0 : Int), (2 : Int), (7 : Int)⟩ : Note), (⟨(1 : Int), (0 : Int), (9 : Int)⟩ : Note)]), cOwn (α := Raw 2) 60 u0_1 rr1_2, cRo Bs2_3] R := H.back H2_ rfl
 clear H2_
 refine sM (.tuple #[u0_39, I r13]) rfl <| sX [u0_39, I r13] u0_39 rfl rfl <| sX [u0_39, I r13] (I r13) rfl rfl <| sA u0_39 rfl <| sA (I r13) rfl <| s_nil <| sQ rfl ?_
 obtain ⟨r112z, hx111z, hM⟩ := M.e_bind hM
 refine s_call cf79 [] rfl (nilometerlaw13_Six_ok hx111z _ (St.give (T := [cOwn (α := Int) 3 u0_39 r03, cOwn (α := Int) 3 v105z ([(1 : Int)]), cOwn (α := Raw 2) 60 u0_35 rr1_36, cRo Bs2_37, cOwn (α := Int) 3 v94z ([(0 : Int), (2 : Int), (4 : Int)]), cOwn (α := Int) 3 v92z ([(0 : Int)]), cOwn (α := Raw 2) 60 u0_30 rr1_31, cRo Bs2_32, cOwn (α := Int) 3 v81z ([(0 : Int), (2 : Int), (4 : Int), (5 : Int)]), cOwn (α := Int) 3 v79z ([(0 : Int)]), cOwn (α := Raw 2) 60 u0_25 rr1_26, cRo Bs2_27, cRo Bs_24, cRo Bs_23, cRo Bs_22, cRo Bs_21, cRo Bs_20, cOwn (α := Int) 3 v45z ([(0 : Int)]), cOwn (α := Raw 2) 60 u0_16 rr1_17, cRo Bs2_18, cRo Bs_15, cOwn (α := Int) 3 v32z ([(1 : Int)]), cOwn (α := Raw 2) 60 u0_11 rr1_12, cRo Bs2_13, cRo Bs_10, cOwn (α := Int) 3 v19z ([(0 : Int)]), cOwn (α := Raw 2) 60 u0_6 rr1_7, cRo Bs2_8, cRo Bs_5, cOwn (α := Note) 30 v6z ([(⟨(0 : Int), (2 : Int), (7 : Int)⟩ : Note), (⟨(1 : Int), (0 : Int), (9 : Int)⟩ : Note)]), cOwn (α := Raw 2) 60 u0_1 rr1_2, cRo Bs2_3]) H rfl)) ?_
 rintro vq w113z ⟨r9, u0_40, rr1_41, Bs2_42, hr114z, hvq, H2_, hf115z⟩
 subst hr114z
 subst vq
 try dsimp only at hM
 replace H : St w w113z [cOwn (α := Raw 2) 60 u0_40 rr1_41, cRo Bs2_42, cOwn (α := Int) 3 u0_39 r03, cOwn (α := Int) 3 v105z ([(1 : Int)]), cOwn (α := Raw 2) 60 u0_35 rr1_36, cRo Bs2_37, cOwn (α := Int) 3 v94z ([(0 : Int), (2 : Int), (4 : Int)]), cOwn (α := Int) 3 v92z ([(0 : Int)]), cOwn (α := Raw 2) 60 u0_30 rr1_31, cRo Bs2_32, cOwn (α := Int) 3 v81z ([(0 : Int), (2 : Int), (4 : Int), (5 : Int)]), cOwn (α := Int) 3 v79z ([(0 : Int)]), cOwn (α := Raw 2) 60 u0_25 rr1_26, cRo Bs2_27, cRo Bs_24, cRo Bs_23, cRo Bs_22, cRo Bs_21, cRo Bs_20, cOwn (α := Int) 3 v45z ([(0 : Int)]), cOwn (α := Raw 2) 60 u0_16 rr1_17, cRo Bs2_18, cRo Bs_15, cOwn (α := Int) 3 v32z ([(1 : Int)]), cOwn (α := Raw 2) 60 u0_11 rr1_12, cRo Bs2_13, cRo Bs_10, cOwn (α := Int) 3 v19z ([(0 : Int)]), cOwn (α := Raw 2) 60 u0_6 rr1_7, cRo Bs2_8, cRo Bs_5, cOwn (α := Note) 30 v6z ([(⟨(0 : Int), (2 : Int), (7 : Int)⟩ : Note), (⟨(1 : Int), (0 : Int), (9 : Int)⟩ : Note)]), cOwn (α := Raw 2) 60 u0_1 rr1_2, cRo Bs2_3] R := H.back H2_ rfl
 clear H2_
 refine t_bs (α := Int) T34 [I 1] [(1 : Int)] H rfl (.cons rfl (Flat.rep_enc _ (1 : Int)) <| .nil) rfl rfl rfl ?_
 intro v116z w117z H
 obtain ⟨r119z, hx118z, hM⟩ := M.e_bind hM
 refine s_call cf65 [u0_40, v116z, I 4] rfl (notes_Lines_ok r9 ([(1 : Int)]) 4 (Reads.sup (Reads.of (k := 1) rfl ownLe) (Reads.of (k := 2) rfl roLe)) (rowSl rfl (H.get (k := 1) rfl) (roLe _ (H.get (k := 2) rfl)) hf115z) (Reads.of (k := 0) rfl ownLe) (ownSl (H.get (k := 0) rfl)) hx118z _ (St.give (T := [cOwn (α := Int) 3 v116z ([(1 : Int)]), cOwn (α := Raw 2) 60 u0_40 rr1_41, cRo Bs2_42, cOwn (α := Int) 3 u0_39 r03, cOwn (α := Int) 3 v105z ([(1 : Int)]), cOwn (α := Raw 2) 60 u0_35 rr1_36, cRo Bs2_37, cOwn (α := Int) 3 v94z ([(0 : Int), (2 : Int), (4 : Int)]), cOwn (α := Int) 3 v92z ([(0 : Int)]), cOwn (α := Raw 2) 60 u0_30 rr1_31, cRo Bs2_32, cOwn (α := Int) 3 v81z ([(0 : Int), (2 : Int), (4 : Int), (5 : Int)]), cOwn (α := Int) 3 v79z ([(0 : Int)]), cOwn (α := Raw 2) 60 u0_25 rr1_26, cRo Bs2_27, cRo Bs_24, cRo Bs_23, cRo Bs_22, cRo Bs_21, cRo Bs_20, cOwn (α := Int) 3 v45z ([(0 : Int)]), cOwn (α := Raw 2) 60 u0_16 rr1_17, cRo Bs2_18, cRo Bs_15, cOwn (α := Int) 3 v32z ([(1 : Int)]), cOwn (α := Raw 2) 60 u0_11 rr1_12, cRo Bs2_13, cRo Bs_10, cOwn (α := Int) 3 v19z ([(0 : Int)]), cOwn (α := Raw 2) 60 u0_6 rr1_7, cRo Bs2_8, cRo Bs_5, cOwn (α := Note) 30 v6z ([(⟨(0 : Int), (2 : Int), (7 : Int)⟩ : Note), (⟨(1 : Int), (0 : Int), (9 : Int)⟩ : Note)]), cOwn (α := Raw 2) 60 u0_1 rr1_2, cRo Bs2_3]) H rfl)) ?_
 rintro vq w120z ⟨r04, r14, u0_44, rr1_45, Bs2_46, hr121z, hvq, H2_, hf122z⟩
 subst hr121z
 subst vq
 try dsimp only at hM
 replace H : St w w120z [cOwn (α := Raw 0) 34 u0_44 rr1_45, cRo Bs2_46, cOwn (α := Int) 3 v116z ([(1 : Int)]), cOwn (α := Raw 2) 60 u0_40 rr1_41, cRo Bs2_42, cOwn (α := Int) 3 u0_39 r03, cOwn (α := Int) 3 v105z ([(1 : Int)]), cOwn (α := Raw 2) 60 u0_35 rr1_36, cRo Bs2_37, cOwn (α := Int) 3 v94z ([(0 : Int), (2 : Int), (4 : Int)]), cOwn (α := Int) 3 v92z ([(0 : Int)]), cOwn (α := Raw 2) 60 u0_30 rr1_31, cRo Bs2_32, cOwn (α := Int) 3 v81z ([(0 : Int), (2 : Int), (4 : Int), (5 : Int)]), cOwn (α := Int) 3 v79z ([(0 : Int)]), cOwn (α := Raw 2) 60 u0_25 rr1_26, cRo Bs2_27, cRo Bs_24, cRo Bs_23, cRo Bs_22, cRo Bs_21, cRo Bs_20, cOwn (α := Int) 3 v45z ([(0 : Int)]), cOwn (α := Raw 2) 60 u0_16 rr1_17, cRo Bs2_18, cRo Bs_15, cOwn (α := Int) 3 v32z ([(1 : Int)]), cOwn (α := Raw 2) 60 u0_11 rr1_12, cRo Bs2_13, cRo Bs_10, cOwn (α := Int) 3 v19z ([(0 : Int)]), cOwn (α := Raw 2) 60 u0_6 rr1_7, cRo Bs2_8, cRo Bs_5, cOwn (α := Note) 30 v6z ([(⟨(0 : Int), (2 : Int), (7 : Int)⟩ : Note), (⟨(1 : Int), (0 : Int), (9 : Int)⟩ : Note)]), cOwn (α := Raw 2) 60 u0_1 rr1_2, cRo Bs2_3] R := H.back H2_ rfl
 clear H2_
 refine sM (.tuple #[u0_44, I r14]) rfl <| sX [u0_44, I r14] u0_44 rfl rfl <| sX [u0_44, I r14] (I r14) rfl rfl <| sA u0_44 rfl <| sA (I r14) rfl <| s_nil <| sQ rfl ?_
 obtain ⟨r124z, hx123z, hM⟩ := M.e_bind hM
 refine s_call cf79 [] rfl (nilometerlaw13_Six_ok hx123z _ (St.give (T := [cOwn (α := Raw 0) 34 u0_44 rr1_45, cRo Bs2_46, cOwn (α := Int) 3 v116z ([(1 : Int)]), cOwn (α := Raw 2) 60 u0_40 rr1_41, cRo Bs2_42, cOwn (α := Int) 3 u0_39 r03, cOwn (α := Int) 3 v105z ([(1 : Int)]), cOwn (α := Raw 2) 60 u0_35 rr1_36, cRo Bs2_37, cOwn (α := Int) 3 v94z ([(0 : Int), (2 : Int), (4 : Int)]), cOwn (α := Int) 3 v92z ([(0 : Int)]), cOwn (α := Raw 2) 60 u0_30 rr1_31, cRo Bs2_32, cOwn (α := Int) 3 v81z ([(0 : Int), (2 : Int), (4 : Int), (5 : Int)]), cOwn (α := Int) 3 v79z ([(0 : Int)]), cOwn (α := Raw 2) 60 u0_25 rr1_26, cRo Bs2_27, cRo Bs_24, cRo Bs_23, cRo Bs_22, cRo Bs_21, cRo Bs_20, cOwn (α := Int) 3 v45z ([(0 : Int)]), cOwn (α := Raw 2) 60 u0_16 rr1_17, cRo Bs2_18, cRo Bs_15, cOwn (α := Int) 3 v32z ([(1 : Int)]), cOwn (α := Raw 2) 60 u0_11 rr1_12, cRo Bs2_13, cRo Bs_10, cOwn (α := Int) 3 v19z ([(0 : Int)]), cOwn (α := Raw 2) 60 u0_6 rr1_7, cRo Bs2_8, cRo Bs_5, cOwn (α := Note) 30 v6z ([(⟨(0 : Int), (2 : Int), (7 : Int)⟩ : Note), (⟨(1 : Int), (0 : Int), (9 : Int)⟩ : Note)]), cOwn (α := Raw 2) 60 u0_1 rr1_2, cRo Bs2_3]) H rfl)) ?_
 rintro vq w125z ⟨r10, u0_47, rr1_48, Bs2_49, hr126z, hvq, H2_, hf127z⟩
 subst hr126z
 subst vq
 try dsimp only at hM
 replace H : St w w125z [cOwn (α := Raw 2) 60 u0_47 rr1_48, cRo Bs2_49, cOwn (α := Raw 0) 34 u0_44 rr1_45, cRo Bs2_46, cOwn (α := Int) 3 v116z ([(1 : Int)]), cOwn (α := Raw 2) 60 u0_40 rr1_41, cRo Bs2_42, cOwn (α := Int) 3 u0_39 r03, cOwn (α := Int) 3 v105z ([(1 : Int)]), cOwn (α := Raw 2) 60 u0_35 rr1_36, cRo Bs2_37, cOwn (α := Int) 3 v94z ([(0 : Int), (2 : Int), (4 : Int)]), cOwn (α := Int) 3 v92z ([(0 : Int)]), cOwn (α := Raw 2) 60 u0_30 rr1_31, cRo Bs2_32, cOwn (α := Int) 3 v81z ([(0 : Int), (2 : Int), (4 : Int), (5 : Int)]), cOwn (α := Int) 3 v79z ([(0 : Int)]), cOwn (α := Raw 2) 60 u0_25 rr1_26, cRo Bs2_27, cRo Bs_24, cRo Bs_23, cRo Bs_22, cRo Bs_21, cRo Bs_20, cOwn (α := Int) 3 v45z ([(0 : Int)]), cOwn (α := Raw 2) 60 u0_16 rr1_17, cRo Bs2_18, cRo Bs_15, cOwn (α := Int) 3 v32z ([(1 : Int)]), cOwn (α := Raw 2) 60 u0_11 rr1_12, cRo Bs2_13, cRo Bs_10, cOwn (α := Int) 3 v19z ([(0 : Int)]), cOwn (α := Raw 2) 60 u0_6 rr1_7, cRo Bs2_8, cRo Bs_5, cOwn (α := Note) 30 v6z ([(⟨(0 : Int), (2 : Int), (7 : Int)⟩ : Note), (⟨(1 : Int), (0 : Int), (9 : Int)⟩ : Note)]), cOwn (α := Raw 2) 60 u0_1 rr1_2, cRo Bs2_3] R := H.back H2_ rfl
 clear H2_
 refine t_bs (α := Int) T34 [I 1] [(1 : Int)] H rfl (.cons rfl (Flat.rep_enc _ (1 : Int)) <| .nil) rfl rfl rfl ?_
 intro v128z w129z H
 obtain ⟨r131z, hx130z, hM⟩ := M.e_bind hM
 refine s_call cf64 [u0_47, v128z, I 3] rfl (notes_Freeze_ok r10 ([(1 : Int)]) 3 (Reads.sup (Reads.of (k := 1) rfl ownLe) (Reads.of (k := 2) rfl roLe)) (rowSl rfl (H.get (k := 1) rfl) (roLe _ (H.get (k := 2) rfl)) hf127z) (Reads.of (k := 0) rfl ownLe) (ownSl (H.get (k := 0) rfl)) hx130z _ (St.give (T := [cOwn (α := Int) 3 v128z ([(1 : Int)]), cOwn (α := Raw 2) 60 u0_47 rr1_48, cRo Bs2_49, cOwn (α := Raw 0) 34 u0_44 rr1_45, cRo Bs2_46, cOwn (α := Int) 3 v116z ([(1 : Int)]), cOwn (α := Raw 2) 60 u0_40 rr1_41, cRo Bs2_42, cOwn (α := Int) 3 u0_39 r03, cOwn (α := Int) 3 v105z ([(1 : Int)]), cOwn (α := Raw 2) 60 u0_35 rr1_36, cRo Bs2_37, cOwn (α := Int) 3 v94z ([(0 : Int), (2 : Int), (4 : Int)]), cOwn (α := Int) 3 v92z ([(0 : Int)]), cOwn (α := Raw 2) 60 u0_30 rr1_31, cRo Bs2_32, cOwn (α := Int) 3 v81z ([(0 : Int), (2 : Int), (4 : Int), (5 : Int)]), cOwn (α := Int) 3 v79z ([(0 : Int)]), cOwn (α := Raw 2) 60 u0_25 rr1_26, cRo Bs2_27, cRo Bs_24, cRo Bs_23, cRo Bs_22, cRo Bs_21, cRo Bs_20, cOwn (α := Int) 3 v45z ([(0 : Int)]), cOwn (α := Raw 2) 60 u0_16 rr1_17, cRo Bs2_18, cRo Bs_15, cOwn (α := Int) 3 v32z ([(1 : Int)]), cOwn (α := Raw 2) 60 u0_11 rr1_12, cRo Bs2_13, cRo Bs_10, cOwn (α := Int) 3 v19z ([(0 : Int)]), cOwn (α := Raw 2) 60 u0_6 rr1_7, cRo Bs2_8, cRo Bs_5, cOwn (α := Note) 30 v6z ([(⟨(0 : Int), (2 : Int), (7 : Int)⟩ : Note), (⟨(1 : Int), (0 : Int), (9 : Int)⟩ : Note)]), cOwn (α := Raw 2) 60 u0_1 rr1_2, cRo Bs2_3]) H rfl)) ?_
 rintro vq w132z ⟨r05, r15, u0_51, hr133z, hvq, H2_⟩
 subst hr133z
 subst vq
 try dsimp only at hM
 replace H : St w w132z [cOwn (α := Int) 3 u0_51 r05, cOwn (α := Int) 3 v128z ([(1 : Int)]), cOwn (α := Raw 2) 60 u0_47 rr1_48, cRo Bs2_49, cOwn (α := Raw 0) 34 u0_44 rr1_45, cRo Bs2_46, cOwn (α := Int) 3 v116z ([(1 : Int)]), cOwn (α := Raw 2) 60 u0_40 rr1_41, cRo Bs2_42, cOwn (α := Int) 3 u0_39 r03, cOwn (α := Int) 3 v105z ([(1 : Int)]), cOwn (α := Raw 2) 60 u0_35 rr1_36, cRo Bs2_37, cOwn (α := Int) 3 v94z ([(0 : Int), (2 : Int), (4 : Int)]), cOwn (α := Int) 3 v92z ([(0 : Int)]), cOwn (α := Raw 2) 60 u0_30 rr1_31, cRo Bs2_32, cOwn (α := Int) 3 v81z ([(0 : Int), (2 : Int), (4 : Int), (5 : Int)]), cOwn (α := Int) 3 v79z ([(0 : Int)]), cOwn (α := Raw 2) 60 u0_25 rr1_26, cRo Bs2_27, cRo Bs_24, cRo Bs_23, cRo Bs_22, cRo Bs_21, cRo Bs_20, cOwn (α := Int) 3 v45z ([(0 : Int)]), cOwn (α := Raw 2) 60 u0_16 rr1_17, cRo Bs2_18, cRo Bs_15, cOwn (α := Int) 3 v32z ([(1 : Int)]), cOwn (α := Raw 2) 60 u0_11 rr1_12, cRo Bs2_13, cRo Bs_10, cOwn (α := Int) 3 v19z ([(0 : Int)]), cOwn (α := Raw 2) 60 u0_6 rr1_7, cRo Bs2_8, cRo Bs_5, cOwn (α := Note) 30 v6z ([(⟨(0 : Int), (2 : Int), (7 : Int)⟩ : Note), (⟨(1 : Int), (0 : Int), (9 : Int)⟩ : Note)]), cOwn (α := Raw 2) 60 u0_1 rr1_2, cRo Bs2_3] R := H.back H2_ rfl
 clear H2_
 refine sM (.tuple #[u0_51, I r15]) rfl <| sX [u0_51, I r15] u0_51 rfl rfl <| sX [u0_51, I r15] (I r15) rfl rfl <| sA u0_51 rfl <| sA (I r15) rfl <| s_nil <| W.seq <| sQ rfl <| sM (I r1) rfl <| sC r1 0 (r1 != 0) rfl rfl rfl <| sM (B (r1 != 0)) rfl ?_
 refine g_val (!(r1 != 0)) (gy_f rfl) (fun hg => x_mv (v := I r12) rfl) <| g_val (!(r1 != 0)) (gy_f rfl) (fun hg => x_cmp (kd := .i64) (a := r12) (b := 0) (r := r12 != 0) (gd_of (c := !(r1 != 0)) hg (I r12)) rfl rfl) <| s_val (x_por (b := r1 != 0) (r := r12 != 0) rfl rfl (fun hb => gd_of (c := !(r1 != 0)) (by first | exact hb | (rw [hb]; rfl) | simp_all) (B (r12 != 0)))) <| sM (B ((r1 != 0) || (r12 != 0))) rfl <| g_val (!((r1 != 0) || (r12 != 0))) (gy_f rfl) (fun hg => x_mv (v := I r13) rfl) <| g_val (!((r1 != 0) || (r12 != 0))) (gy_f rfl) (fun hg => x_cmp (kd := .i64) (a := r13) (b := 0) (r := r13 != 0) (gd_of (c := !((r1 != 0) || (r12 != 0))) hg (I r13)) rfl rfl) <| s_val (x_por (b := ((r1 != 0) || (r12 != 0))) (r := r13 != 0) rfl rfl (fun hb => gd_of (c := !((r1 != 0) || (r12 != 0))) (by first | exact hb | (rw [hb]; rfl) | simp_all) (B (r13 != 0)))) <| sM (B (((r1 != 0) || (r12 != 0)) || (r13 != 0))) rfl <| g_val (!(((r1 != 0) || (r12 != 0)) || (r13 != 0))) (gy_f rfl) (fun hg => x_mv (v := I r14) rfl) <| g_val (!(((r1 != 0) || (r12 != 0)) || (r13 != 0))) (gy_f rfl) (fun hg => x_cmp (kd := .i64) (a := r14) (b := 0) (r := r14 != 0) (gd_of (c := !(((r1 != 0) || (r12 != 0)) || (r13 != 0))) hg (I r14)) rfl rfl) <| s_val (x_por (b := (((r1 != 0) || (r12 != 0)) || (r13 != 0))) (r := r14 != 0) rfl rfl (fun hb => gd_of (c := !(((r1 != 0) || (r12 != 0)) || (r13 != 0))) (by first | exact hb | (rw [hb]; rfl) | simp_all) (B (r14 != 0)))) <| sM (B ((((r1 != 0) || (r12 != 0)) || (r13 != 0)) || (r14 != 0))) rfl ?_
 refine g_val (!((((r1 != 0) || (r12 != 0)) || (r13 != 0)) || (r14 != 0))) (gy_f rfl) (fun hg => x_mv (v := I r15) rfl) <| g_val (!((((r1 != 0) || (r12 != 0)) || (r13 != 0)) || (r14 != 0))) (gy_f rfl) (fun hg => x_cmp (kd := .i64) (a := r15) (b := 5) (r := r15 != 5) (gd_of (c := !((((r1 != 0) || (r12 != 0)) || (r13 != 0)) || (r14 != 0))) hg (I r15)) rfl rfl) <| s_val (x_por (b := ((((r1 != 0) || (r12 != 0)) || (r13 != 0)) || (r14 != 0))) (r := r15 != 5) rfl rfl (fun hb => gd_of (c := !((((r1 != 0) || (r12 != 0)) || (r13 != 0)) || (r14 != 0))) (by first | exact hb | (rw [hb]; rfl) | simp_all) (B (r15 != 5)))) <| sM (B (((((r1 != 0) || (r12 != 0)) || (r13 != 0)) || (r14 != 0)) || (r15 != 5))) rfl <| g_val (!(((((r1 != 0) || (r12 != 0)) || (r13 != 0)) || (r14 != 0)) || (r15 != 5))) (gy_f rfl) (fun hg => x_mv (v := B r0) rfl) <| g_val (!(((((r1 != 0) || (r12 != 0)) || (r13 != 0)) || (r14 != 0)) || (r15 != 5))) (gy_f rfl) (fun hg => x_not (b := r0) (gd_of (c := !(((((r1 != 0) || (r12 != 0)) || (r13 != 0)) || (r14 != 0)) || (r15 != 5))) hg (B r0))) <| s_val (x_por (b := (((((r1 != 0) || (r12 != 0)) || (r13 != 0)) || (r14 != 0)) || (r15 != 5))) (r := !r0) rfl rfl (fun hb => gd_of (c := !(((((r1 != 0) || (r12 != 0)) || (r13 != 0)) || (r14 != 0)) || (r15 != 5))) (by first | exact hb | (rw [hb]; rfl) | simp_all) (B (!r0)))) <| sM (B ((((((r1 != 0) || (r12 != 0)) || (r13 != 0)) || (r14 != 0)) || (r15 != 5)) || (!r0))) rfl <| g_val (!((((((r1 != 0) || (r12 != 0)) || (r13 != 0)) || (r14 != 0)) || (r15 != 5)) || (!r0))) (gy_f rfl) (fun hg => x_mv (v := B r02) rfl) <| s_val (x_por (b := ((((((r1 != 0) || (r12 != 0)) || (r13 != 0)) || (r14 != 0)) || (r15 != 5)) || (!r0))) (r := r02) rfl rfl (fun hb => gd_of (c := !((((((r1 != 0) || (r12 != 0)) || (r13 != 0)) || (r14 != 0)) || (r15 != 5)) || (!r0))) (by first | exact hb | (rw [hb]; rfl) | simp_all) (B r02))) <| sM (B (((((((r1 != 0) || (r12 != 0)) || (r13 != 0)) || (r14 != 0)) || (r15 != 5)) || (!r0)) || r02)) rfl <| g_val (!(((((((r1 != 0) || (r12 != 0)) || (r13 != 0)) || (r14 != 0)) || (r15 != 5)) || (!r0)) || r02)) (gy_f rfl) (fun hg => x_mv (v := u0_39) rfl) ?_
 refine t_gbs (α := Int) T34 (!(((((((r1 != 0) || (r12 != 0)) || (r13 != 0)) || (r14 != 0)) || (r15 != 5)) || (!r0)) || r02)) (gy_f rfl) [I 2, I 3] [(2 : Int), (3 : Int)] H (fun _ => rfl) (.cons rfl (Flat.rep_enc _ _) <| .cons rfl (Flat.rep_enc _ _) <| .nil) rfl rfl rfl ?_
 intro v134z Bs_52 w135z H hf136z
 obtain ⟨s5, hx137z, hM⟩ := M.e_bind hM
 replace hx137z := M.e_pure hx137z
 refine t_gcall (!(((((((r1 != 0) || (r12 != 0)) || (r13 != 0)) || (r14 != 0)) || (r15 != 5)) || (!r0)) || r02)) (gy_f rfl) cf25 (B s5) (fun _ => [u0_39, v134z]) (fun hg => lst2 (gd_of (c := !(((((((r1 != 0) || (r12 != 0)) || (r13 != 0)) || (r14 != 0)) || (r15 != 5)) || (!r0)) || r02)) hg (u0_39)) (gd_of (c := !(((((((r1 != 0) || (r12 != 0)) || (r13 != 0)) || (r14 != 0)) || (r15 != 5)) || (!r0)) || r02)) hg (v134z))) H (fun hg => Ret.mono (same_int _ ((ownSl (H.get (k := 10) rfl)).mono (ownLe _ (H.get (k := 10) rfl))) ((hf136z hg).mono (roLe _ (H.get (k := 0) rfl)))) fun v_ w_ ⟨hv_, hx_⟩ => ⟨hv_.trans (congrArg B hx137z), H.ext hx_⟩) ?_
 intro w138z H
 refine g_val (!(((((((r1 != 0) || (r12 != 0)) || (r13 != 0)) || (r14 != 0)) || (r15 != 5)) || (!r0)) || r02)) (gy_f rfl) (fun hg => x_not (b := s5) (gd_of (c := !(((((((r1 != 0) || (r12 != 0)) || (r13 != 0)) || (r14 != 0)) || (r15 != 5)) || (!r0)) || r02)) hg (B s5))) <| s_val (x_por (b := (((((((r1 != 0) || (r12 != 0)) || (r13 != 0)) || (r14 != 0)) || (r15 != 5)) || (!r0)) || r02)) (r := !s5) rfl rfl (fun hb => gd_of (c := !(((((((r1 != 0) || (r12 != 0)) || (r13 != 0)) || (r14 != 0)) || (r15 != 5)) || (!r0)) || r02)) (by first | exact hb | (rw [hb]; rfl) | simp_all) (B (!s5)))) <| sM (B ((((((((r1 != 0) || (r12 != 0)) || (r13 != 0)) || (r14 != 0)) || (r15 != 5)) || (!r0)) || r02) || (!s5))) rfl <| g_val (!((((((((r1 != 0) || (r12 != 0)) || (r13 != 0)) || (r14 != 0)) || (r15 != 5)) || (!r0)) || r02) || (!s5))) (gy_f rfl) (fun hg => x_mv (v := u0_44) rfl) <| g_val (!((((((((r1 != 0) || (r12 != 0)) || (r13 != 0)) || (r14 != 0)) || (r15 != 5)) || (!r0)) || r02) || (!s5))) (gy_f rfl) (fun hg => x_lenS T73.und (gd_of (c := !((((((((r1 != 0) || (r12 != 0)) || (r13 != 0)) || (r14 != 0)) || (r15 != 5)) || (!r0)) || r02) || (!s5))) hg (u0_44)) (rowSl rfl (H.get (k := 5) rfl) (roLe _ (H.get (k := 6) rfl)) hf122z)) <| g_val (!((((((((r1 != 0) || (r12 != 0)) || (r13 != 0)) || (r14 != 0)) || (r15 != 5)) || (!r0)) || r02) || (!s5))) (gy_f rfl) (fun hg => x_cmp (kd := .i64) (a := (r04.length : Int)) (b := 2) (r := (r04.length : Int) != 2) (gd_of (c := !((((((((r1 != 0) || (r12 != 0)) || (r13 != 0)) || (r14 != 0)) || (r15 != 5)) || (!r0)) || r02) || (!s5))) hg (I (r04.length : Int))) rfl rfl) <| s_val (x_por (b := ((((((((r1 != 0) || (r12 != 0)) || (r13 != 0)) || (r14 != 0)) || (r15 != 5)) || (!r0)) || r02) || (!s5))) (r := (r04.length : Int) != 2) rfl rfl (fun hb => gd_of (c := !((((((((r1 != 0) || (r12 != 0)) || (r13 != 0)) || (r14 != 0)) || (r15 != 5)) || (!r0)) || r02) || (!s5))) (by first | exact hb | (rw [hb]; rfl) | simp_all) (B ((r04.length : Int) != 2)))) <| s_nil ?_
 refine W.cond (((((((((r1 != 0) || (r12 != 0)) || (r13 != 0)) || (r14 != 0)) || (r15 != 5)) || (!r0)) || r02) || (!s5)) || ((r04.length : Int) != 2)) rfl (fun c140z => ?_) (fun c140z => ?_)
 ·replace hM := M.e_t hM c140z
  refine sQ rfl <| sA (B false) rfl <| s_nil ?_
  refine W.ret ?_
  have hr_ := M.e_pure hM
  exact ⟨_, resE_tmp rfl, ⟨false, hr_, rfl, (H.pick [] (by decide) rfl)⟩⟩
 replace hM := M.e_f hM c140z
 refine W.skip <| sQ rfl ?_
 obtain ⟨r142z, hx141z, hM⟩ := M.e_bind hM
 refine s_call cf79 [] rfl (nilometerlaw13_Six_ok hx141z _ (St.give (T := [cRo Bs_52, cOwn (α := Int) 3 u0_51 r05, cOwn (α := Int) 3 v128z ([(1 : Int)]), cOwn (α := Raw 2) 60 u0_47 rr1_48, cRo Bs2_49, cOwn (α := Raw 0) 34 u0_44 rr1_45, cRo Bs2_46, cOwn (α := Int) 3 v116z ([(1 : Int)]), cOwn (α := Raw 2) 60 u0_40 rr1_41, cRo Bs2_42, cOwn (α := Int) 3 u0_39 r03, cOwn (α := Int) 3 v105z ([(1 : Int)]), cOwn (α := Raw 2) 60 u0_35 rr1_36, cRo Bs2_37, cOwn (α := Int) 3 v94z ([(0 : Int), (2 : Int), (4 : Int)]), cOwn (α := Int) 3 v92z ([(0 : Int)]), cOwn (α := Raw 2) 60 u0_30 rr1_31, cRo Bs2_32, cOwn (α := Int) 3 v81z ([(0 : Int), (2 : Int), (4 : Int), (5 : Int)]), cOwn (α := Int) 3 v79z ([(0 : Int)]), cOwn (α := Raw 2) 60 u0_25 rr1_26, cRo Bs2_27, cRo Bs_24, cRo Bs_23, cRo Bs_22, cRo Bs_21, cRo Bs_20, cOwn (α := Int) 3 v45z ([(0 : Int)]), cOwn (α := Raw 2) 60 u0_16 rr1_17, cRo Bs2_18, cRo Bs_15, cOwn (α := Int) 3 v32z ([(1 : Int)]), cOwn (α := Raw 2) 60 u0_11 rr1_12, cRo Bs2_13, cRo Bs_10, cOwn (α := Int) 3 v19z ([(0 : Int)]), cOwn (α := Raw 2) 60 u0_6 rr1_7, cRo Bs2_8, cRo Bs_5, cOwn (α := Note) 30 v6z ([(⟨(0 : Int), (2 : Int), (7 : Int)⟩ : Note), (⟨(1 : Int), (0 : Int), (9 : Int)⟩ : Note)]), cOwn (α := Raw 2) 60 u0_1 rr1_2, cRo Bs2_3]) H rfl)) ?_
 rintro vq w143z ⟨r11, u0_53, rr1_54, Bs2_55, hr144z, hvq, H2_, hf145z⟩
 subst hr144z
 subst vq
 try dsimp only at hM
 replace H : St w w143z [cOwn (α := Raw 2) 60 u0_53 rr1_54, cRo Bs2_55, cRo Bs_52, cOwn (α := Int) 3 u0_51 r05, cOwn (α := Int) 3 v128z ([(1 : Int)]), cOwn (α := Raw 2) 60 u0_47 rr1_48, cRo Bs2_49, cOwn (α := Raw 0) 34 u0_44 rr1_45, cRo Bs2_46, cOwn (α := Int) 3 v116z ([(1 : Int)]), cOwn (α := Raw 2) 60 u0_40 rr1_41, cRo Bs2_42, cOwn (α := Int) 3 u0_39 r03, cOwn (α := Int) 3 v105z ([(1 : Int)]), cOwn (α := Raw 2) 60 u0_35 rr1_36, cRo Bs2_37, cOwn (α := Int) 3 v94z ([(0 : Int), (2 : Int), (4 : Int)]), cOwn (α := Int) 3 v92z ([(0 : Int)]), cOwn (α := Raw 2) 60 u0_30 rr1_31, cRo Bs2_32, cOwn (α := Int) 3 v81z ([(0 : Int), (2 : Int), (4 : Int), (5 : Int)]), cOwn (α := Int) 3 v79z ([(0 : Int)]), cOwn (α := Raw 2) 60 u0_25 rr1_26, cRo Bs2_27, cRo Bs_24, cRo Bs_23, cRo Bs_22, cRo Bs_21, cRo Bs_20, cOwn (α := Int) 3 v45z ([(0 : Int)]), cOwn (α := Raw 2) 60 u0_16 rr1_17, cRo Bs2_18, cRo Bs_15, cOwn (α := Int) 3 v32z ([(1 : Int)]), cOwn (α := Raw 2) 60 u0_11 rr1_12, cRo Bs2_13, cRo Bs_10, cOwn (α := Int) 3 v19z ([(0 : Int)]), cOwn (α := Raw 2) 60 u0_6 rr1_7, cRo Bs2_8, cRo Bs_5, cOwn (α := Note) 30 v6z ([(⟨(0 : Int), (2 : Int), (7 : Int)⟩ : Note), (⟨(1 : Int), (0 : Int), (9 : Int)⟩ : Note)]), cOwn (α := Raw 2) 60 u0_1 rr1_2, cRo Bs2_3] R := H.back H2_ rfl
 clear H2_
 refine s_val (x_bld (ps := [(0, I 0), (1, I 3), (2, I 8)]) (zs := [I 0, I 0, I 0]) (L' := [I 0, I 3, I 8]) rfl Try.underlying30 Al30 rfl (Bd30 Try.underlying30) (.cons (cs := [I 0]) rfl rfl rfl rfl rfl <| .cons (cs := [I 3]) rfl rfl rfl rfl rfl <| .cons (cs := [I 8]) rfl rfl rfl rfl rfl <| .nil)) <| s_val (x_bld (ps := [(0, I 0), (1, I 2), (2, I 7)]) (zs := [I 0, I 0, I 0]) (L' := [I 0, I 2, I 7]) rfl Try.underlying30 Al30 rfl (Bd30 Try.underlying30) (.cons (cs := [I 0]) rfl rfl rfl rfl rfl <| .cons (cs := [I 2]) rfl rfl rfl rfl rfl <| .cons (cs := [I 7]) rfl rfl rfl rfl rfl <| .nil)) <| s_val (x_bld (ps := [(0, I 1), (2, I 9)]) (zs := [I 0, I 0, I 0]) (L' := [I 1, I 0, I 9]) rfl Try.underlying30 Al30 rfl (Bd30 Try.underlying30) (.cons (cs := [I 1]) rfl rfl rfl rfl rfl <| .cons (cs := [I 9]) rfl rfl rfl rfl rfl <| .nil)) ?_
 refine t_bs (α := Note) T23 [.agg #[I 0, I 3, I 8], .agg #[I 0, I 2, I 7], .agg #[I 1, I 0, I 9]] [(⟨(0 : Int), (3 : Int), (8 : Int)⟩ : Note), (⟨(0 : Int), (2 : Int), (7 : Int)⟩ : Note), (⟨(1 : Int), (0 : Int), (9 : Int)⟩ : Note)] H rfl (.cons rfl (Flat.rep_enc _ (⟨(0 : Int), (3 : Int), (8 : Int)⟩ : Note)) <| .cons rfl (Flat.rep_enc _ (⟨(0 : Int), (2 : Int), (7 : Int)⟩ : Note)) <| .cons rfl (Flat.rep_enc _ (⟨(1 : Int), (0 : Int), (9 : Int)⟩ : Note)) <| .nil) rfl rfl rfl ?_
 intro v146z w147z H
 refine s_val (x_bld (ps := [(0, I 2), (1, I 26)]) (zs := [I 0, I 0]) (L' := [I 2, I 26]) rfl Try.underlying33 Al33 rfl (Bd33 Try.underlying33) (.cons (cs := [I 2]) rfl rfl rfl rfl rfl <| .cons (cs := [I 26]) rfl rfl rfl rfl rfl <| .nil)) <| s_val (x_bld (ps := [(0, I 3), (1, I 10)]) (zs := [I 0, I 0]) (L' := [I 3, I 10]) rfl Try.underlying33 Al33 rfl (Bd33 Try.underlying33) (.cons (cs := [I 3]) rfl rfl rfl rfl rfl <| .cons (cs := [I 10]) rfl rfl rfl rfl rfl <| .nil)) ?_
 refine t_bs (α := Pub) T24 [.agg #[I 2, I 26], .agg #[I 3, I 10]] [(⟨(2 : Int), (26 : Int)⟩ : Pub), (⟨(3 : Int), (10 : Int)⟩ : Pub)] H rfl (.cons rfl (Flat.rep_enc _ (⟨(2 : Int), (26 : Int)⟩ : Pub)) <| .cons rfl (Flat.rep_enc _ (⟨(3 : Int), (10 : Int)⟩ : Pub)) <| .nil) rfl rfl rfl ?_
 intro v148z w149z H
 obtain ⟨⟨l5, e5⟩, hx153z, hM⟩ := M.e_bind hM
 obtain ⟨hq154z, hq155z⟩ := Prod.mk.inj (M.e_pure hx153z)
 try dsimp only at hM
 refine s_call cf26 [u0_53, v146z, v148z] rfl (by have hc_ := (Withdrawn_any _ ((rowSl rfl (H.get (k := 2) rfl) (roLe _ (H.get (k := 3) rfl)) hf145z).mono (Cells.sup_le (ownLe _ (H.get (k := 2) rfl)) (roLe _ (H.get (k := 3) rfl)))) ((ownSl (H.get (k := 1) rfl)).mono (ownLe _ (H.get (k := 1) rfl))) ((ownSl (H.get (k := 0) rfl)).mono (ownLe _ (H.get (k := 0) rfl)))); rw [hq154z, hq155z] at hc_; exact hc_) ?_
 rintro _ w150z ⟨u151z, rfl, hs152z, hx_⟩
 obtain ⟨Bs_58, H, hs152z⟩ := H.fresh hx_ hs152z
 clear hx_
 have hl_hs152z := hs152z.len_le
 refine sM (.tuple #[u151z, I e5]) rfl <| sX [u151z, I e5] u151z rfl rfl <| sX [u151z, I e5] (I e5) rfl rfl <| sA u151z rfl <| sA (I e5) rfl <| s_nil <| sQ rfl <| sM (I e5) rfl <| sC e5 0 (e5 == 0) rfl rfl rfl <| sM (B (e5 == 0)) rfl <| g_val (e5 == 0) (gy_t rfl) (fun hg => x_mv (v := u151z) rfl) ?_
 refine t_gbs (α := Int) T34 (e5 == 0) (gy_t rfl) [I 0] [(0 : Int)] H (fun _ => rfl) (.cons rfl (Flat.rep_enc _ _) <| .nil) rfl rfl rfl ?_
 intro v156z Bs_59 w157z H hf158z
 obtain ⟨s6, hx159z, hM⟩ := M.e_bind hM
 replace hx159z := M.e_pure hx159z
 refine t_gcall (e5 == 0) (gy_t rfl) cf25 (B s6) (fun _ => [u151z, v156z]) (fun hg => lst2 (gd_of (c := e5 == 0) hg (u151z)) (gd_of (c := e5 == 0) hg (v156z))) H (fun hg => Ret.mono (same_int _ (hs152z.mono (roLe _ (H.get (k := 1) rfl))) ((hf158z hg).mono (roLe _ (H.get (k := 0) rfl)))) fun v_ w_ ⟨hv_, hx_⟩ => ⟨hv_.trans (congrArg B hx159z), H.ext hx_⟩) ?_
 intro w160z H
 refine s_val (x_pand (b := e5 == 0) (r := s6) rfl (fun hb => gd_of (c := e5 == 0) (by first | exact hb | (rw [hb]; rfl) | simp_all) (B s6)) rfl) <| sA (B ((e5 == 0) && s6)) rfl <| s_nil ?_
 refine W.ret ?_
 have hr_ := M.e_pure hM
 exact ⟨_, resE_tmp rfl, ⟨((e5 == 0) && s6), hr_, rfl, (H.pick [] (by decide) rfl)⟩⟩

end Go.Proofs.Ytndobgodeicloaa
end
namespace Go.Proofs.Ytndobgodeicloaa
open Go Go.Nm
variable {ws : List Work} {rev f : List Int}
/-! ### Fences -/
theorem containsFunc_ends {s : List Int} {f : Int → M Bool} {p : Int → Bool} (hf : ∀ x ∈ s, (f x).Ends (p x)) : (m_slices_ContainsFunc_int s f).Ends (s.any p) := by
  have key : ∃ r, (m_slices_IndexFunc_int s f).Ends r ∧ decide (0 ≤ r) = s.any p := by
    have h := M.i_loopQ (body := m_slices_IndexFunc_int_b0 s f) (fun r => match r with | .inl k => 0 ≤ k ∧ s.any p = true | .inr _ => s.any p = false)
      (fun m i => m = s.length - i ∧ i ≤ s.length ∧ (s.take i).any p = false) (by
        rintro m i ⟨rfl, hi, ha⟩
        simp only [m_slices_IndexFunc_int_b0]
        by_cases e : i < s.length
        · have hp := hf _ (getD_memN s (by omega : (i : Int) < _) 0)
          cases hc : p (s.getD i 0) with
          | true =>
            rw [hc] at hp
            exact .inr ⟨.inl (i : Int), M.i_t (by simpa using e) (M.grdD (by omega) (M.i_bind hp M.i_pure)), by omega, List.any_eq_true.2 ⟨_, getD_memN s (by omega : (i : Int) < _) 0, hc⟩⟩
          | false =>
            rw [hc] at hp
            exact .inl ⟨i + 1, s.length - (i + 1), by omega, M.i_t (by simpa using e) (M.grdD (by omega) (M.i_bind hp M.i_pure)), rfl, e, by rw [any_take_succ p s e 0, ha, hc]; rfl⟩
        · obtain rfl : i = s.length := by omega
          rw [List.take_length] at ha
          exact .inr ⟨.inr (), M.i_f (by simp) M.i_pure, ha⟩) _ 0 ⟨rfl, Nat.zero_le _, by simp⟩
    obtain ⟨r, h1, h2⟩ := h
    cases r with
    | inl k => exact ⟨k, M.i_bind h1 M.i_pure, by rw [h2.2]; simpa using h2.1⟩
    | inr u => exact ⟨-1, M.i_bind h1 M.i_pure, by dsimp only at h2; rw [h2]; rfl⟩
  obtain ⟨r, h1, h2⟩ := key
  rw [← h2]
  exact M.i_bind h1 M.i_pure
theorem every_ends {s : List Int} {f : Int → M Bool} {p : Int → Bool} (hf : ∀ x ∈ s, (f x).Ends (p x)) : (m_notes_every_int f s).Ends (s.all p) := by
  have h := containsFunc_ends (s := s) (f := fun x => m_notes_every_int__1 x f) (p := fun x => !(p x)) (fun x hx => M.i_bind (hf x hx) M.i_pure)
  have e : s.all p = !(s.any fun x => !(p x)) := by rw [List.all_eq_not_any_not]
  rw [e]
  exact M.i_bind h M.i_pure
end Go.Proofs.Ytndobgodeicloaa
namespace Go.Proofs.Ytndobgodeicloaa
open Go Go.Nm
theorem awake_ends : m_nilometerlaw13_awake.Ends true := ⟨40, by kernel_rfl⟩
end Go.Proofs.Ytndobgodeicloaa
section
set_option maxRecDepth 100000
set_option maxHeartbeats 16000000
namespace Go.Proofs.Ytndobgodeicloaa
open Go Go.Nm
def m_nilometerkit_Copy_notes_Work (l : List Work) : M (List Work) :=
  M.grd (decide ((([] : List Work).length + l.length) * 40 ≤ 140737488355328)) <|
  M.pure l
theorem nilometerkit_Copy_notes_Work_ok {R : List Chunk} {C_l : Cells} {v_l : Value} (l : List Work) (hC_l : Reads R C_l) (hs_l : Sl C_l v_l l) {r : (List Work)} (hM : (m_nilometerkit_Copy_notes_Work l).Ends r) (w : World) (H : St w w [] R) : Ret Try.prog 80 #[v_l] w fun v w' => ∃ (y0 : List Work) (u0 : Value) (rr1 : List (Raw 2)) (Bs2 : Base), y0 = r ∧ v = u0 ∧ St w w' [cOwn (α := Raw 2) 60 u0 rr1, cRo Bs2] R ∧ RepR (α := Work) (Cells.sup C_l Bs2.cells) rr1 y0 := by
 refine ret_of_W Try.func80 rfl rfl rfl ?_
 refine sQ rfl <| sA (.slice none 0 0) rfl <| s_nil <| sQ rfl <| sA (.slice none 0 0) rfl <| s_nil <| sQ rfl <| sM (.slice none 0 0) rfl <| sM v_l rfl ?_
 obtain ⟨Bs_1, H⟩ := H.emptyE
 replace H : St w w [cOwn (α := Raw 2) 60 (.slice none 0 0) ([]), cRo Bs_1] R := H.nilOwn (α := Raw 2) 60
 have hr1z : RepR (α := Work) (n := 2) Bs_1.cells [] [] := .nil
 obtain ⟨sd2z, hM⟩ := M.e_gd hM
 obtain ⟨rw4z, hs5z, hr3z⟩ := rawOf (n := 2) rfl hs_l
 replace hr1z := hr1z.mono (Cells.sup_r (hC_l.at H) (roLe _ (H.get (k := 1) rfl)))
 replace hr3z := hr3z.mono (Cells.sup_l _ Bs_1.cells)
 have hr8z := hr1z.app hr3z
 simp only [List.nil_append] at hr8z
 refine t_app (α := Raw 2) (k := 0) (l := []) (l2 := rw4z) (l' := rw4z) (vy := v_l) T22 rfl H rfl rfl rfl hs5z (hC_l.at H) (List.nil_append _) (by have a_ := hr1z.len; have b_ := hr3z.len; simp only [List.length_nil] at *; first | omega | (rw [a_, b_]; omega)) ?_
 intro v6z w7z H
 replace H : St w w7z [cOwn (α := Raw 2) 60 v6z rw4z, cRo Bs_1] R := H
 refine sA v6z rfl <| s_nil ?_
 refine W.ret ?_
 have hr_ := M.e_pure hM
 exact ⟨_, resE_tmp rfl, ⟨l, v6z, rw4z, Bs_1, hr_, rfl, H, hr8z⟩⟩

def m_nilometerlaw13_CopyWorks_b0 (w_ : List Work) (r2 : List Work) : ((List Work) × Nat) → M (((List Work) × Nat) ⊕ ((List Work) × (List Work))) := fun (l, s) =>
  bif decide ((s : Int) < (r2.length : Int)) then (
  M.grd (decide ((s : Int) < (w_.length : Int))) <|
  M.grd (decide (((w_.getD s default).of).length ≤ 1000000)) <|
  M.grd (decide ((s : Int) < (l.length : Int))) <|
  M.pure (.inl (l.set s ({ (l.getD s default) with of := ((w_.getD s default).of) }), s + 1)))
  else (
  M.pure (.inr (l, l)))
def m_nilometerlaw13_CopyWorks (w_ : List Work) : M (List Work) :=
  M.bind (m_nilometerkit_Copy_notes_Work w_) fun r2 =>
  M.bind (M.iter (m_nilometerlaw13_CopyWorks_b0 w_ r2) (r2, 0)) fun (l2, l3) =>
  M.pure l3
theorem nilometerlaw13_CopyWorks_ok {R : List Chunk} {C_w_ : Cells} {v_w_ : Value} (w_ : List Work) (hC_w_ : Reads R C_w_) (hs_w_ : Sl C_w_ v_w_ w_) {r : (List Work)} (hM : (m_nilometerlaw13_CopyWorks w_).Ends r) (w : World) (H : St w w [] R) : Ret Try.prog 18 #[v_w_] w fun v w' => ∃ (y0 : List Work) (u0 : Value) (rr1 : List (Raw 2)) (Bs2 : Base), y0 = r ∧ v = u0 ∧ St w w' [cOwn (α := Raw 2) 60 u0 rr1, cRo Bs2] R ∧ RepR (α := Work) (Cells.sup C_w_ Bs2.cells) rr1 y0 := by
 refine ret_of_W Try.func18 rfl rfl rfl ?_
 refine sQ rfl <| sA (.slice none 0 0) rfl <| s_nil <| sQ rfl <| sM v_w_ rfl ?_
 obtain ⟨r2z, hx1z, hM⟩ := M.e_bind hM
 refine s_call cf80 [v_w_] rfl (nilometerkit_Copy_notes_Work_ok w_ (hC_w_.app _) hs_w_ hx1z _ (St.give (T := []) H rfl)) ?_
 rintro vq w3z ⟨r2, u0_1, rr1_2, Bs2_3, hr4z, hvq, H2_, hf5z⟩
 subst hr4z
 subst vq
 try dsimp only at hM
 replace H : St w w3z [cOwn (α := Raw 2) 60 u0_1 rr1_2, cRo Bs2_3] R := H.back H2_ rfl
 clear H2_
 refine sA u0_1 rfl <| s_nil <| W.seq <| sQ rfl <| sM u0_1 rfl ?_
 have hl6z := ((rowSl rfl (H.get (k := 0) rfl) (Cells.sup_le (hC_w_.at H) (roLe _ (H.get (k := 1) rfl))) hf5z)).len_le
 refine s_val (x_lenS T22.und rfl (rowSl rfl (H.get (k := 0) rfl) (Cells.sup_le (hC_w_.at H) (roLe _ (H.get (k := 1) rfl))) hf5z)) <| sM (I 0) rfl <| s_nil <| W.block ?_
 obtain ⟨ex7z, hi8z, hk9z⟩ := M.e_bind hM
 obtain ⟨m0_, hi8z⟩ := M.e_iter hi8z
 refine W.loop (fun m σ W => ∃ (l : List Work) (s : Nat) (v_l : Value) (rw_l : List (Raw 2)) (B_l : Base) (ρ : Env), σ = upds ρ [(0, v_w_), (3, v_l), (8, I (r2.length : Int)), (9, I (s : Int))] ∧ M.iterN (m_nilometerlaw13_CopyWorks_b0 w_ r2) m (l, s) = some ex7z ∧ St w W [cOwn (α := Raw 2) 60 v_l rw_l, cRo B_l] R ∧ RepR (α := Work) (Cells.sup C_w_ B_l.cells) rw_l l) ?_ ?_
 ·exact ⟨_, r2, 0, u0_1, rr1_2, Bs2_3, _, upds_of _ _ ⟨rfl, rfl, rfl, rfl, trivial⟩, hi8z, H, hf5z⟩
 rintro m12z σ w10z ⟨l, s, v_l, rw_l, B_l, ρ, rfl, hI11z, H, hr_l⟩
 obtain ⟨m13z, lt14z, x15z, hM, hN16z⟩ := M.e_iterN hI11z
 simp only [m_nilometerlaw13_CopyWorks_b0] at hM
 clear hI11z
 refine sQ rfl <| sC (s : Int) (r2.length : Int) (decide ((s : Int) < (r2.length : Int))) rfl rfl rfl <| s_nil <| W.seq ?_
 refine W.cond (decide ((s : Int) < (r2.length : Int))) rfl (fun c17z => ?_) (fun c17z => ?_)
 ·replace hM := M.e_t hM c17z
  simp only [qz1, qz2, qz3, qz4, qz5, qz6, ne_eq, qz7] at c17z
  refine W.skip <| W.seq <| W.block <| sQ rfl <| sM (I (s : Int)) rfl <| sA (I (s : Int)) rfl <| s_nil <| W.region rfl <| sM v_l rfl <| sM (I (s : Int)) rfl <| sM v_w_ rfl ?_
  refine sM (I (s : Int)) rfl ?_
  obtain ⟨sd18z, hM⟩ := M.e_gd hM
  refine s_val (x_ix (a := v_w_) (b := I (s : Int)) (v := vat v_w_ 3 (Int.toNat (s : Int))) rfl rfl (Sl.ix (α := Work) T22.und T22.size hs_w_ (by omega) (by omega))) <| s_val (x_fa (a := vat v_w_ 3 (Int.toNat (s : Int))) (v := fat (vat v_w_ 3 (Int.toNat (s : Int))) 0) rfl (fa_pl Fd60_0 Sz34 (Sl.pl (i := (s : Int)) hs_w_ (by omega) (by omega)))) ?_
  obtain ⟨u19z, ha_u19z, hs20z⟩ := Work_at0 hs_w_ (i := (s : Int)) (by omega) (by omega)
  replace hs20z : Sl _ u19z (w_.getD s default).of := hs20z
  have hl_hs20z := hs20z.len_le
  refine s_val (x_ld (p := fat (vat v_w_ 3 (Int.toNat (s : Int))) 0) (v := u19z) rfl (ld_sc Sc34 (At.mono (ha_u19z) (hC_w_.at H)))) ?_
  obtain ⟨sd21z, hM⟩ := M.e_gd hM
  refine s_call cf31 [u19z] rfl (copy_int _ (hs20z.mono (hC_w_.at H)) (by omega)) ?_
  rintro v23z w22z ⟨ho_, hx_⟩
  replace H : St w w22z [cOwn (α := Int) 3 v23z ((w_.getD s default).of), cOwn (α := Raw 2) 60 v_l rw_l, cRo B_l] R := H.ownOf hx_ ho_
  clear hx_ ho_
  obtain ⟨sd24z, hM⟩ := M.e_gd hM
  refine s_val (x_ix (a := v_l) (b := I (s : Int)) (v := vat v_l 3 (Int.toNat (s : Int))) rfl rfl (Sl.ix (α := Work) T22.und T22.size (rowSl rfl (H.get (k := 1) rfl) (Cells.sup_le (hC_w_.at H) (roLe _ (H.get (k := 2) rfl))) hr_l) (by omega) (by omega))) <| s_val (x_fa (a := vat v_l 3 (Int.toNat (s : Int))) (v := fat (vat v_l 3 (Int.toNat (s : Int))) 0) rfl (fa_pl Fd60_0 Sz34 (Sl.pl (i := (s : Int)) (rowSl rfl (H.get (k := 1) rfl) (Cells.sup_le (hC_w_.at H) (roLe _ (H.get (k := 2) rfl))) hr_l) (by omega) (by omega)))) ?_
  obtain ⟨Bs_5, H, hs27z⟩ := H.freezeE (k := 0) rfl
  replace H : St w w22z [cRo Bs_5, cOwn (α := Raw 2) 60 v_l rw_l, cRo B_l] R := H
  have hq26z := hs27z
  obtain ⟨Bs_6, H, le28z, le29z⟩ := H.joinE (i := 2) (j := 0) rfl rfl
  replace hr_l := hr_l.mono (Cells.sup_mono le28z (hC_w_.at H) (roLe _ (H.get (k := 0) rfl)))
  replace hq26z := hq26z.mono (le29z.trans (Cells.sup_r (hC_w_.at H) (roLe _ (H.get (k := 0) rfl))))
  have hl33z := hr_l.len
  obtain ⟨rw30z, hw32z⟩ : ∃ r : List (Raw 2), (rw_l).set s (Raw.put ((rw_l).getD s default) 0 [v23z] rfl (by simp only [List.all_cons, List.all_nil, Bool.true_and, Bool.and_true, Sl.oc hq26z]; try rfl)) = r := ⟨_, rfl⟩
  have hr31z : RepR (α := Work) (Cells.sup C_w_ Bs_6.cells) rw30z (l.set s ({ (l.getD s default) with of := ((w_.getD s default).of) })) := by rw [← hw32z]; exact hr_l.set _ (by obtain ⟨sv_0, hc_, hv_0⟩ := hr_l.getD (k := s) (by omega) default; show Elt.rep _ (((rw_l).getD s default).cs.take 0 ++ [v23z] ++ ((rw_l).getD s default).cs.drop (0 + ([v23z] : List Value).length)) _; rw [hc_]; exact ⟨_, rfl, hq26z⟩)
  refine t_fst (α := Raw 2) (k := 2) (i := (s : Int)) (off := 0) (l := rw_l) (l' := rw30z) (val := v23z) (L' := [cRo Bs_6, cRo Bs_5, cOwn (α := Raw 2) 60 v_l rw30z, cRo B_l]) H rfl Sz34 (by omega) (by omega) ((rw_l).getD s default) (Raw.put ((rw_l).getD s default) 0 [v23z] rfl (by simp only [List.all_cons, List.all_nil, Bool.true_and, Bool.and_true, Sl.oc hq26z]; try rfl)) (getD_some _ (by omega) _) rfl rfl [v23z] (Sl.cells hq26z) rfl rfl (by simp only [List.all_cons, List.all_nil, Bool.true_and, Bool.and_true, Sl.oc hq26z]; try rfl) rfl hw32z rfl ?_
  intro w34z H
  refine s_nil <| W.region rfl <| sR (s : Int) 1 ((s : Int) + 1) rfl rfl rfl (by omega) <| sM (I ((s : Int) + 1)) rfl <| s_nil ?_
  exact ⟨m13z, lt14z, l.set s ({ (l.getD s default) with of := ((w_.getD s default).of) }), s + 1, v_l, rw30z, Bs_6, _, upds_of _ _ ⟨rfl, rfl, rfl, rfl, trivial⟩, M.e_inl hM hN16z, (H.pick [2, 0] (by decide) rfl), hr31z⟩
 replace hM := M.e_f hM c17z
 simp only [qz1, qz2, qz3, qz4, qz5, qz6, ne_eq, qz7] at c17z
 refine W.exit ?_
 have hX35z := M.e_inr hM hN16z
 subst hX35z
 replace hM := hk9z
 try dsimp only at hM
 refine sQ rfl <| sM v_l rfl <| sA v_l rfl <| s_nil ?_
 refine W.ret ?_
 have hr_ := M.e_pure hM
 exact ⟨_, resE_tmp rfl, ⟨l, v_l, rw_l, B_l, hr_, rfl, H, hr_l⟩⟩

end Go.Proofs.Ytndobgodeicloaa
end
namespace Go.Proofs.Ytndobgodeicloaa
open Go Go.Nm
theorem copyWorks_ends {ws : List Work} (h : ws.length ≤ 1000) (ho : ∀ x ∈ ws, x.of.length ≤ 1000) : (m_nilometerlaw13_CopyWorks ws).Ends ws := by
  unfold m_nilometerlaw13_CopyWorks
  refine M.i_bind (a := ws) ?_ (M.i_bind (a := (ws, ws)) ?_ M.i_pure)
  · exact M.grdD (by simp only [List.length_nil]; omega) M.i_pure
  · refine M.i_for (fun i => (ws, i)) ws.length (fun i hi => ?_) ?_
    · have hm := ho _ (getD_memN ws (by omega : (i : Int) < ws.length) default)
      simp only [m_nilometerlaw13_CopyWorks_b0]
      refine M.i_t (by simpa using hi) (M.grdD (by omega) (M.grdD (by omega) (M.grdD (by omega) ?_)))
      rw [show ({ (ws.getD i default) with of := (ws.getD i default).of } : Work) = ws.getD i default from rfl, set_getD_self ws i hi]
      exact M.i_pure
    · simp only [m_nilometerlaw13_CopyWorks_b0]
      exact M.i_f (by simp) M.i_pure
end Go.Proofs.Ytndobgodeicloaa
section
set_option maxRecDepth 100000
set_option maxHeartbeats 16000000
namespace Go.Proofs.Ytndobgodeicloaa
open Go Go.Nm
def m_nilometerlaw13_Works_b0 (w_ : List Work) : (Nat × (List Work)) → M ((Nat × (List Work)) ⊕ ((List Work) × (List Work))) := fun (s, l) =>
  bif decide ((s : Int) < (w_.length : Int)) then (
  M.grd (decide ((s : Int) < (w_.length : Int))) <|
  M.grd (decide (((w_.getD s default).of).length ≤ 1000000)) <|
  M.grd (decide ((l.length + ([(⟨((w_.getD s default).of), ((w_.getD s default).base : Int), ((w_.getD s default).minutes : Int)⟩ : Work)]).length) * 40 ≤ 140737488355328)) <|
  M.pure (.inl (s + 1, l ++ ([(⟨((w_.getD s default).of), ((w_.getD s default).base : Int), ((w_.getD s default).minutes : Int)⟩ : Work)]))))
  else (
  M.pure (.inr (l, l)))
def m_nilometerlaw13_Works (w_ : List Work) : M (List Work) :=
  M.bind (M.iter (m_nilometerlaw13_Works_b0 w_) (0, [])) fun (l2, l3) =>
  M.pure l3
theorem nilometerlaw13_Works_ok {R : List Chunk} {C_w_ : Cells} {v_w_ : Value} (w_ : List Work) (hC_w_ : Reads R C_w_) (hs_w_ : Sl C_w_ v_w_ w_) {r : (List Work)} (hM : (m_nilometerlaw13_Works w_).Ends r) (w : World) (H : St w w [] R) : Ret Try.prog 23 #[v_w_] w fun v w' => ∃ (y0 : List Work) (u0 : Value) (rr1 : List (Raw 2)) (Bs2 : Base), y0 = r ∧ v = u0 ∧ St w w' [cOwn (α := Raw 2) 138 u0 rr1, cRo Bs2] R ∧ RepR (α := Work) Bs2.cells rr1 y0 := by
 refine ret_of_W Try.func23 rfl rfl rfl ?_
 refine sQ rfl <| sA (.slice none 0 0) rfl <| s_nil <| sQ rfl <| sA (.slice none 0 0) rfl <| s_nil <| W.seq <| sQ rfl <| sM v_w_ rfl ?_
 have hl1z := (hs_w_).len_le
 refine s_val (x_lenS T22.und rfl hs_w_) <| sM (I 0) rfl <| s_nil <| W.block ?_
 obtain ⟨Bs_10, H⟩ := H.emptyE
 replace H : St w w [cOwn (α := Raw 2) 138 (.slice none 0 0) ([]), cRo Bs_10] R := H.nilOwn (α := Raw 2) 138
 have hr2z : RepR (α := Work) (n := 2) Bs_10.cells [] [] := .nil
 obtain ⟨ex3z, hi4z, hk5z⟩ := M.e_bind hM
 obtain ⟨m0_, hi4z⟩ := M.e_iter hi4z
 refine W.loop (fun m σ W => ∃ (s : Nat) (l : List Work) (v_l : Value) (rw_l : List (Raw 2)) (B_l : Base) (ρ : Env), σ = upds ρ [(3, v_l), (6, v_w_), (7, I (w_.length : Int)), (8, I (s : Int))] ∧ M.iterN (m_nilometerlaw13_Works_b0 w_) m (s, l) = some ex3z ∧ St w W [cOwn (α := Raw 2) 138 v_l rw_l, cRo B_l] R ∧ RepR (α := Work) B_l.cells rw_l l) ?_ ?_
 ·exact ⟨_, 0, [], (.slice none 0 0), [], Bs_10, _, upds_of _ _ ⟨rfl, rfl, rfl, rfl, trivial⟩, hi4z, H, hr2z⟩
 rintro m8z σ w6z ⟨s, l, v_l, rw_l, B_l, ρ, rfl, hI7z, H, hr_l⟩
 obtain ⟨m9z, lt10z, x11z, hM, hN12z⟩ := M.e_iterN hI7z
 simp only [m_nilometerlaw13_Works_b0] at hM
 clear hI7z
 refine sQ rfl <| sC (s : Int) (w_.length : Int) (decide ((s : Int) < (w_.length : Int))) rfl rfl rfl <| s_nil <| W.seq ?_
 refine W.cond (decide ((s : Int) < (w_.length : Int))) rfl (fun c13z => ?_) (fun c13z => ?_)
 ·replace hM := M.e_t hM c13z
  simp only [qz1, qz2, qz3, qz4, qz5, qz6, ne_eq, qz7] at c13z
  refine W.skip <| W.seq <| W.block <| sQ rfl ?_
  obtain ⟨sd14z, hM⟩ := M.e_gd hM
  refine s_val (x_ix (a := v_w_) (b := I (s : Int)) (v := vat v_w_ 3 (Int.toNat (s : Int))) rfl rfl (Sl.ix (α := Work) T22.und T22.size hs_w_ (by omega) (by omega))) ?_
  obtain ⟨u15z, ha17z, hs16z⟩ := Work_atA hs_w_ (i := (s : Int)) (by omega) (by omega)
  replace hs16z : Sl _ u15z (w_.getD s default).of := hs16z
  have hl_hs16z := hs16z.len_le
  refine s_val (x_ld (p := vat v_w_ 3 (Int.toNat (s : Int))) (v := .agg #[u15z, I ((w_.getD s default).base), I ((w_.getD s default).minutes)]) rfl (ld_ag Ag60 Sz60 (At.mono ha17z (hC_w_.at H)))) ?_
  refine t_alloc (cs := [.slice none 0 0, I 0, I 0]) H Al60 rfl ?_
  intro b_1 w18z H
  refine t_st (k := 0) (b := b_1) (off := 0) (cs := [.slice none 0 0, I 0, I 0]) (vs := [u15z, I ((w_.getD s default).base), I ((w_.getD s default).minutes)]) (cs' := [u15z, I ((w_.getD s default).base), I ((w_.getD s default).minutes)]) (v := .agg #[u15z, I ((w_.getD s default).base), I ((w_.getD s default).minutes)]) (L' := [cBlk b_1 [u15z, I ((w_.getD s default).base), I ((w_.getD s default).minutes)] 60, cOwn (α := Raw 2) 138 v_l rw_l, cRo B_l]) H rfl rfl rfl Sz60 rfl rfl rfl (by simp only [List.all_cons, List.all_nil, Bool.true_and, Bool.and_true, Sl.oc hs16z]; try rfl) rfl rfl ?_
  intro w19z H
  refine s_nil ?_
  refine W.draw (fun W => St w W [cBlk b_1 [u15z, I ((w_.getD s default).base), I ((w_.getD s default).minutes)] 60, cRo B_l] R) [(0, true), (1, true), (2, true), (4, true), (5, true), (6, true), (7, true), (3, false), (8, false), (9, false), (10, false), (11, true)] mixed (by decide +kernel) rfl ?_
  intro w20z hx_
  replace H : St w w20z [cBlk b_1 [u15z, I ((w_.getD s default).base), I ((w_.getD s default).minutes)] 60, cOwn (α := Raw 2) 138 v_l rw_l, cRo B_l] R := H.ext hx_
  clear hx_
  refine ⟨(H.pick [0, 2] (by decide) rfl), ?_⟩
  refine d_q rfl (fun w' H => x_mv (v := v_l) rfl) ?_
  refine d_q rfl (fun w' H => x_fa (a := Pz b_1) (v := Pz b_1) rfl (fa_blk (o := 0) Fd60_0 Sz34)) ?_
  refine d_q rfl (fun w' H => x_ld (p := Pz b_1) (v := u15z) rfl (ldb_sc Sc34 (H.blk (k := 0) rfl) rfl)) ?_
  refine d_q rfl (fun w' H => x_fa (a := Pz b_1) (v := Oz b_1 1) rfl (fa_blk (o := 0) Fd60_1 Sz3)) ?_
  refine d_q rfl (fun w' H => x_ld (p := Oz b_1 1) (v := I ((w_.getD s default).base)) rfl (ldb_sc Sc3 (H.blk (k := 0) rfl) rfl)) ?_
  refine d_q rfl (fun w' H => x_fa (a := Pz b_1) (v := Oz b_1 2) rfl (fa_blk (o := 0) Fd60_2 Sz3)) ?_
  refine d_q rfl (fun w' H => x_ld (p := Oz b_1 2) (v := I ((w_.getD s default).minutes)) rfl (ldb_sc Sc3 (H.blk (k := 0) rfl) rfl)) ?_
  refine d_l rfl ?_
  obtain ⟨sd21z, hM⟩ := M.e_gd hM
  refine s_call cf31 [u15z] rfl (copy_int _ (hs16z.mono (hC_w_.at H)) (by omega)) ?_
  rintro v23z w22z ⟨ho_, hx_⟩
  replace H : St w w22z [cOwn (α := Int) 3 v23z ((w_.getD s default).of), cBlk b_1 [u15z, I ((w_.getD s default).base), I ((w_.getD s default).minutes)] 60, cOwn (α := Raw 2) 138 v_l rw_l, cRo B_l] R := H.ownOf hx_ ho_
  clear hx_ ho_
  refine s_nil ⟨(H.pick [1, 3] (by decide) rfl), ?_⟩
  refine d_l rfl ?_
  refine s_val (x_bld (ps := [(0, v23z), (1, I ((w_.getD s default).base)), (2, I ((w_.getD s default).minutes))]) (zs := [.slice none 0 0, I 0, I 0]) (L' := [v23z, I ((w_.getD s default).base), I ((w_.getD s default).minutes)]) rfl Try.underlying138 Al138 rfl (Bd138 Try.underlying138) (.cons (cs := [v23z]) (Sl.cells (ownSl (H.get (k := 0) rfl))) rfl rfl rfl rfl <| .cons (cs := [I ((w_.getD s default).base)]) rfl rfl rfl rfl rfl <| .cons (cs := [I ((w_.getD s default).minutes)]) rfl rfl rfl rfl rfl <| .nil)) ?_
  refine s_nil ⟨(H.pick [1, 3] (by decide) rfl), ?_⟩
  refine d_l rfl ?_
  obtain ⟨Bs_3, H⟩ := H.emptyE
  obtain ⟨Bs_4, H, hs25z⟩ := H.freezeE (k := 1) rfl
  replace H : St w w22z [cRo Bs_3, cRo Bs_4, cBlk b_1 [u15z, I ((w_.getD s default).base), I ((w_.getD s default).minutes)] 60, cOwn (α := Raw 2) 138 v_l rw_l, cRo B_l] R := H
  have hq24z := hs25z
  obtain ⟨Bs_5, H, le26z, le27z⟩ := H.joinE (i := 0) (j := 1) rfl rfl
  replace hq24z := hq24z.mono le27z
  obtain ⟨rw28z, hrw_rw28z⟩ : ∃ r : Raw 2, r.cs = [v23z, I ((w_.getD s default).base), I ((w_.getD s default).minutes)] := ⟨Raw.of [v23z, I ((w_.getD s default).base), I ((w_.getD s default).minutes)] rfl (by simp only [List.all_cons, List.all_nil, Bool.true_and, Bool.and_true, Sl.oc hq24z]; try rfl), rfl⟩
  have hr29z : RepR (α := Work) Bs_5.cells [rw28z] [(⟨((w_.getD s default).of), ((w_.getD s default).base : Int), ((w_.getD s default).minutes : Int)⟩ : Work)] := .cons (by rw [hrw_rw28z]; exact ⟨_, rfl, hq24z⟩) <| .nil
  refine t_bs (α := Raw 2) T39 [.agg #[v23z, I ((w_.getD s default).base), I ((w_.getD s default).minutes)]] [rw28z] H rfl (.cons (by rw [show (Flat.enc rw28z : List Value) = rw28z.cs from rfl, hrw_rw28z]; rfl) (Flat.rep_enc _ _) <| .nil) rfl rfl rfl ?_
  intro v30z w31z H
  replace H : St w w31z [cOwn (α := Raw 2) 138 v30z ([rw28z]), cRo Bs_5, cRo Bs_3, cRo Bs_4, cBlk b_1 [u15z, I ((w_.getD s default).base), I ((w_.getD s default).minutes)] 60, cOwn (α := Raw 2) 138 v_l rw_l, cRo B_l] R := H
  refine s_nil ⟨(H.pick [4, 6] (by decide) rfl), ?_⟩
  refine d_l rfl ?_
  obtain ⟨sd32z, hM⟩ := M.e_gd hM
  have hr33z := hr29z
  obtain ⟨Bs_9, H, le34z, le35z⟩ := H.joinE (i := 6) (j := 1) rfl rfl
  replace hr_l := hr_l.mono le34z
  replace hr33z := hr33z.mono le35z
  have hr38z := hr_l.app hr33z
  refine t_app (α := Raw 2) (k := 6) (l := rw_l) (l2 := [rw28z]) (l' := rw_l ++ ([rw28z])) (vy := v30z) T39 rfl H rfl rfl rfl (ownSl (H.get (k := 1) rfl)) (ownLe _ (H.get (k := 1) rfl)) (rfl) (by have a_ := hr_l.len; have b_ := hr33z.len; simp only [List.length_nil] at *; first | omega | (rw [a_, b_]; omega)) ?_
  intro v36z w37z H
  replace H : St w w37z [cRo Bs_9, cOwn (α := Raw 2) 138 v30z ([rw28z]), cRo Bs_5, cRo Bs_3, cRo Bs_4, cBlk b_1 [u15z, I ((w_.getD s default).base), I ((w_.getD s default).minutes)] 60, cOwn (α := Raw 2) 138 v36z (rw_l ++ ([rw28z])), cRo B_l] R := H
  refine s_nil ⟨(H.pick [5, 7] (by decide) rfl), ?_⟩
  refine d_q rfl (fun w' H => x_as (v := v36z) rfl) ?_
  refine d_nil ?_
  refine W.region rfl <| sR (s : Int) 1 ((s : Int) + 1) rfl rfl rfl (by omega) <| sM (I ((s : Int) + 1)) rfl <| s_nil ?_
  exact ⟨m9z, lt10z, s + 1, l ++ ([(⟨((w_.getD s default).of), ((w_.getD s default).base : Int), ((w_.getD s default).minutes : Int)⟩ : Work)]), v36z, rw_l ++ ([rw28z]), Bs_9, _, upds_of _ _ ⟨rfl, rfl, rfl, rfl, trivial⟩, M.e_inl hM hN12z, (H.pick [6, 0] (by decide) rfl), hr38z⟩
 replace hM := M.e_f hM c13z
 simp only [qz1, qz2, qz3, qz4, qz5, qz6, ne_eq, qz7] at c13z
 refine W.exit ?_
 have hX39z := M.e_inr hM hN12z
 subst hX39z
 replace hM := hk5z
 try dsimp only at hM
 refine sQ rfl <| sM v_l rfl <| sA v_l rfl <| s_nil ?_
 refine W.ret ?_
 have hr_ := M.e_pure hM
 exact ⟨_, resE_tmp rfl, ⟨l, v_l, rw_l, B_l, hr_, rfl, H, hr_l⟩⟩

def m_nilometerref13_behind_b0 (w_ : List Work) : (Nat × (List (List Bool))) → M ((Nat × (List (List Bool))) ⊕ ((List (List Bool)) × (List (List Bool)))) := fun (i, l) =>
  bif decide ((i : Int) < (w_.length : Int)) then (
  M.grd (decide ((0 : Int) ≤ (w_.length : Int)) && decide ((1 : Int) * (w_.length : Int) ≤ 281474976710656) && decide ((w_.length : Int) ≤ (9223372036854775807 : Int))) <|
  M.grd (decide ((l.length + 1) * 24 ≤ 140737488355328)) <|
  M.pure (.inl (i + 1, l ++ [List.replicate (w_.length) false])))
  else (
  M.pure (.inr (l, l)))
def m_nilometerref13_behind_b12 (w_ : List Work) (b : Nat) (k : Nat) : ((List (List Bool)) × Bool × Nat) → M (((List (List Bool)) × Bool × Nat) ⊕ ((List (List Bool)) × Bool × (List (List Bool)))) := fun (l4, changed, a) =>
  bif decide ((a : Int) < (w_.length : Int)) then (
  M.grd ((!(!((a : Int) == (((w_.getD b default).of).getD k 0))) || (decide ((a : Int) < (l4.length : Int))))) <|
  M.grd ((!(!((a : Int) == (((w_.getD b default).of).getD k 0))) || (decide ((0 : Int) ≤ (((w_.getD b default).of).getD k 0)) && decide ((((w_.getD b default).of).getD k 0) < ((l4.getD a ([])).length : Int))))) <|
  M.grd ((!(((a : Int) == (((w_.getD b default).of).getD k 0)) || ((l4.getD a ([])).getD (Int.toNat (((w_.getD b default).of).getD k 0)) false)) || (decide ((a : Int) < (l4.length : Int))))) <|
  M.grd ((!(((a : Int) == (((w_.getD b default).of).getD k 0)) || ((l4.getD a ([])).getD (Int.toNat (((w_.getD b default).of).getD k 0)) false)) || (decide ((b : Int) < ((l4.getD a ([])).length : Int))))) <|
  bif ((((a : Int) == (((w_.getD b default).of).getD k 0)) || ((l4.getD a ([])).getD (Int.toNat (((w_.getD b default).of).getD k 0)) false)) && (!((l4.getD a ([])).getD b false))) then (
  M.grd (decide ((a : Int) < (l4.length : Int))) <|
  M.grd (decide ((b : Int) < ((l4.getD a ([])).length : Int))) <|
  M.pure (.inl (l4.set a ((l4.getD a ([])).set b true), true, a + 1)))
  else (
  M.pure (.inl (l4, changed, a + 1))))
  else (
  M.pure (.inr (l4, changed, l4)))
def m_nilometerref13_behind_b13 (w_ : List Work) (b : Nat) : ((List (List Bool)) × Bool × Nat) → M (((List (List Bool)) × Bool × Nat) ⊕ ((List (List Bool)) × Bool × (List (List Bool)))) := fun (l7, changed3, k) =>
  M.grd (decide ((b : Int) < (w_.length : Int))) <|
  bif decide ((k : Int) < (((w_.getD b default).of).length : Int)) then (
  M.grd (decide ((k : Int) < (((w_.getD b default).of).length : Int))) <|
  M.bind (M.iter (m_nilometerref13_behind_b12 w_ b k) (l7, changed3, 0)) fun (l5, changed2, l6) =>
  M.pure (.inl (l6, changed2, k + 1)))
  else (
  M.pure (.inr (l7, changed3, l7)))
def m_nilometerref13_behind_b14 (w_ : List Work) : ((List (List Bool)) × Bool × Nat) → M (((List (List Bool)) × Bool × Nat) ⊕ ((List (List Bool)) × Bool × (List (List Bool)))) := fun (l10, changed5, b) =>
  bif decide ((b : Int) < (w_.length : Int)) then (
  M.bind (M.iter (m_nilometerref13_behind_b13 w_ b) (l10, changed5, 0)) fun (l8, changed4, l9) =>
  M.pure (.inl (l9, changed4, b + 1)))
  else (
  M.pure (.inr (l10, changed5, l10)))
def m_nilometerref13_behind_b15 (w_ : List Work) : ((List (List Bool)) × Bool) → M (((List (List Bool)) × Bool) ⊕ ((List (List Bool)) × (List (List Bool)))) := fun (l13, changed7) =>
  bif changed7 then (
  M.bind (M.iter (m_nilometerref13_behind_b14 w_) (l13, false, 0)) fun (l11, changed6, l12) =>
  M.pure (.inl (l12, changed6)))
  else (
  M.pure (.inr (l13, l13)))
def m_nilometerref13_behind (w_ : List Work) : M (List (List Bool)) :=
  M.bind (M.iter (m_nilometerref13_behind_b0 w_) (0, [])) fun (l2, l3) =>
  M.bind (M.iter (m_nilometerref13_behind_b15 w_) (l3, true)) fun (l14, l15) =>
  M.pure l15
theorem nilometerref13_behind_ok {R : List Chunk} {C_w_ : Cells} {v_w_ : Value} (w_ : List Work) (hC_w_ : Reads R C_w_) (hs_w_ : Sl C_w_ v_w_ w_) {r : (List (List Bool))} (hM : (m_nilometerref13_behind w_).Ends r) (w : World) (H : St w w [] R) : Ret Try.prog 94 #[v_w_] w fun v w' => ∃ (y0 : List (List Bool)) (u0 : Value) (Bs1 : Base), y0 = r ∧ v = u0 ∧ St w w' [cRo Bs1] R ∧ Sl Bs1.cells u0 y0 := by
 refine ret_of_W Try.func94 rfl rfl rfl ?_
 refine sQ rfl <| sA (.slice none 0 0) rfl <| s_nil <| sQ rfl <| sA (.slice none 0 0) rfl <| s_nil <| W.seq <| sQ rfl <| sA (I 0) rfl ?_
 refine s_nil <| W.block ?_
 replace H : St w w [cMat (α := Bool) 147 4 (.slice none 0 0) ([]) ([])] R := H.nilMat (α := Bool) 147 4
 have hus1z : ([] : List SV).length = ([] : List (List Bool)).length := rfl
 obtain ⟨ex2z, hi3z, hk4z⟩ := M.e_bind hM
 obtain ⟨m0_, hi3z⟩ := M.e_iter hi3z
 refine W.loop (fun m σ W => ∃ (i : Nat) (l : List (List Bool)) (v_l : Value) (us_l : List SV) (ρ : Env), σ = upds ρ [(0, v_w_), (3, v_l), (4, I (i : Int))] ∧ M.iterN (m_nilometerref13_behind_b0 w_) m (i, l) = some ex2z ∧ St w W [cMat (α := Bool) 147 4 v_l us_l l] R ∧ us_l.length = l.length) ?_ ?_
 ·exact ⟨_, 0, [], (.slice none 0 0), [], _, upds_of _ _ ⟨rfl, rfl, rfl, trivial⟩, hi3z, H, hus1z⟩
 rintro m7z σ w5z ⟨i, l, v_l, us_l, ρ, rfl, hI6z, H, hus_l⟩
 obtain ⟨m8z, lt9z, x10z, hM, hN11z⟩ := M.e_iterN hI6z
 simp only [m_nilometerref13_behind_b0] at hM
 clear hI6z
 refine W.seq <| sQ rfl <| sM (I (i : Int)) rfl <| sM v_w_ rfl ?_
 have hl12z := (hs_w_).len_le
 refine s_val (x_lenS T39.und rfl hs_w_) <| sC (i : Int) (w_.length : Int) (decide ((i : Int) < (w_.length : Int))) rfl rfl rfl <| s_nil ?_
 refine W.cond (decide ((i : Int) < (w_.length : Int))) rfl (fun c13z => ?_) (fun c13z => ?_)
 ·replace hM := M.e_t hM c13z
  simp only [qz1, qz2, qz3, qz4, qz5, qz6, ne_eq, qz7] at c13z
  refine W.skip <| W.seq <| W.block <| W.region rfl <| sM v_l rfl <| sM v_w_ rfl ?_
  have hl14z := (hs_w_).len_le
  refine s_val (x_lenS T39.und rfl hs_w_) ?_
  obtain ⟨sd15z, hM⟩ := M.e_gd hM
  refine t_mk (α := Bool) T147 false rfl (n := (w_.length : Int)) H rfl rfl (by omega) (by omega) (by omega) ?_
  intro v16z w17z H
  replace H : St w w17z [cOwn (α := Bool) 4 v16z (List.replicate (w_.length) false), cMat (α := Bool) 147 4 v_l us_l l] R := H
  have one18z := sl_one (ownSl (H.get (k := 0) rfl))
  refine t_bs (α := SV) T145 [v16z] [(⟨v16z, one18z⟩ : SV)] H rfl (.cons (oneCell_cells one18z) rfl <| .nil) rfl rfl rfl ?_
  intro v19z w20z H
  replace H : St w w20z [cOwn (α := SV) 147 v19z ([(⟨v16z, one18z⟩ : SV)]), cOwn (α := Bool) 4 v16z (List.replicate (w_.length) false), cMat (α := Bool) 147 4 v_l us_l l] R := H
  obtain ⟨sd21z, hM⟩ := M.e_gd hM
  replace H : St w w20z [cMat (α := Bool) 147 4 v_l us_l l, cOwn (α := Bool) 4 v16z (List.replicate (w_.length) false), cOwn (α := SV) 147 v19z ([(⟨v16z, one18z⟩ : SV)])] R := H.pick [2, 1, 0] (by decide) rfl
  refine t_matapp (T := l) (row := List.replicate (w_.length) false) (sv := (⟨v16z, one18z⟩ : SV)) T145 rfl H hus_l rfl rfl rfl (ownSl (H.get (k := 2) rfl)) (ownLe _ (H.get (k := 2) rfl)) (by first | omega | (simp only [List.length_nil] at *; omega)) ?_
  intro v22z w23z H
  replace H : St w w23z [cMat (α := Bool) 147 4 v22z (us_l ++ [(⟨v16z, one18z⟩ : SV)]) (l ++ [List.replicate (w_.length) false]), cOwn (α := SV) 147 v19z ([(⟨v16z, one18z⟩ : SV)])] R := H
  have hus24z : (us_l ++ [(⟨v16z, one18z⟩ : SV)]).length = (l ++ [List.replicate (w_.length) false]).length := by simp only [List.length_append, List.length_cons, List.length_nil, hus_l]
  refine sA v22z rfl <| s_nil <| W.region rfl <| sM (I (i : Int)) rfl <| sR (i : Int) 1 ((i : Int) + 1) rfl rfl rfl (by omega) <| sA (I ((i : Int) + 1)) rfl <| s_nil ?_
  exact ⟨m8z, lt9z, i + 1, l ++ [List.replicate (w_.length) false], v22z, us_l ++ [(⟨v16z, one18z⟩ : SV)], _, upds_of _ _ ⟨rfl, rfl, rfl, trivial⟩, M.e_inl hM hN11z, (H.pick [0] (by decide) rfl), hus24z⟩
 replace hM := M.e_f hM c13z
 simp only [qz1, qz2, qz3, qz4, qz5, qz6, ne_eq, qz7] at c13z
 refine W.exit ?_
 have hX25z := M.e_inr hM hN11z
 subst hX25z
 replace hM := hk4z
 try dsimp only at hM
 refine W.seq <| sQ rfl <| sA (B true) rfl <| s_nil <| W.block ?_
 obtain ⟨ex26z, hi27z, hk28z⟩ := M.e_bind hM
 obtain ⟨m0_, hi27z⟩ := M.e_iter hi27z
 refine W.loop (fun m σ W => ∃ (l13 : List (List Bool)) (changed7 : Bool) (v_l13 : Value) (us_l13 : List SV) (ρ : Env), σ = upds ρ [(0, v_w_), (3, v_l13), (5, B changed7)] ∧ M.iterN (m_nilometerref13_behind_b15 w_) m (l13, changed7) = some ex26z ∧ St w W [cMat (α := Bool) 147 4 v_l13 us_l13 l13] R ∧ us_l13.length = l13.length) ?_ ?_
 ·exact ⟨_, l, true, v_l, us_l, _, upds_of _ _ ⟨rfl, rfl, rfl, trivial⟩, hi27z, H, hus_l⟩
 rintro m31z σ w29z ⟨l13, changed7, v_l13, us_l13, ρ, rfl, hI30z, H, hus_l13⟩
 obtain ⟨m32z, lt33z, x34z, hM, hN35z⟩ := M.e_iterN hI30z
 simp only [m_nilometerref13_behind_b15] at hM
 clear hI30z
 refine W.seq <| sQ rfl <| sM (B changed7) rfl <| s_nil ?_
 refine W.cond changed7 rfl (fun c36z => ?_) (fun c36z => ?_)
 ·replace hM := M.e_t hM c36z
  refine W.skip <| W.block <| sQ rfl <| sA (B false) rfl <| s_nil <| sQ rfl <| sA (I 0) rfl <| s_nil <| W.block ?_
  obtain ⟨ex37z, hi38z, hk39z⟩ := M.e_bind hM
  obtain ⟨m0_, hi38z⟩ := M.e_iter hi38z
  refine W.loop (fun m σ W => ∃ (l10 : List (List Bool)) (changed5 : Bool) (b : Nat) (v_l10 : Value) (us_l10 : List SV) (ρ : Env), σ = upds ρ [(0, v_w_), (3, v_l10), (5, B changed5), (6, I (b : Int))] ∧ M.iterN (m_nilometerref13_behind_b14 w_) m (l10, changed5, b) = some ex37z ∧ St w W [cMat (α := Bool) 147 4 v_l10 us_l10 l10] R ∧ us_l10.length = l10.length) ?_ ?_
  ·exact ⟨_, l13, false, 0, v_l13, us_l13, _, upds_of _ _ ⟨rfl, rfl, rfl, rfl, trivial⟩, hi38z, H, hus_l13⟩
  rintro m42z σ w40z ⟨l10, changed5, b, v_l10, us_l10, ρ, rfl, hI41z, H, hus_l10⟩
  obtain ⟨m43z, lt44z, x45z, hM, hN46z⟩ := M.e_iterN hI41z
  simp only [m_nilometerref13_behind_b14] at hM
  clear hI41z
  refine W.seq <| sQ rfl <| sM (I (b : Int)) rfl <| sM v_w_ rfl ?_
  have hl47z := (hs_w_).len_le
  refine s_val (x_lenS T39.und rfl hs_w_) <| sC (b : Int) (w_.length : Int) (decide ((b : Int) < (w_.length : Int))) rfl rfl rfl <| s_nil ?_
  refine W.cond (decide ((b : Int) < (w_.length : Int))) rfl (fun c48z => ?_) (fun c48z => ?_)
  ·replace hM := M.e_t hM c48z
   simp only [qz1, qz2, qz3, qz4, qz5, qz6, ne_eq, qz7] at c48z
   refine W.skip <| W.seq <| W.block <| sQ rfl <| sA (I 0) rfl <| s_nil <| W.block ?_
   obtain ⟨ex49z, hi50z, hk51z⟩ := M.e_bind hM
   obtain ⟨m0_, hi50z⟩ := M.e_iter hi50z
   refine W.loop (fun m σ W => ∃ (l7 : List (List Bool)) (changed3 : Bool) (k : Nat) (v_l7 : Value) (us_l7 : List SV) (ρ : Env), σ = upds ρ [(0, v_w_), (3, v_l7), (5, B changed3), (6, I (b : Int)), (7, I (k : Int))] ∧ M.iterN (m_nilometerref13_behind_b13 w_ b) m (l7, changed3, k) = some ex49z ∧ St w W [cMat (α := Bool) 147 4 v_l7 us_l7 l7] R ∧ us_l7.length = l7.length) ?_ ?_
   ·exact ⟨_, l10, changed5, 0, v_l10, us_l10, _, upds_of _ _ ⟨rfl, rfl, rfl, rfl, rfl, trivial⟩, hi50z, H, hus_l10⟩
   rintro m54z σ w52z ⟨l7, changed3, k, v_l7, us_l7, ρ, rfl, hI53z, H, hus_l7⟩
   obtain ⟨m55z, lt56z, x57z, hM, hN58z⟩ := M.e_iterN hI53z
   simp only [m_nilometerref13_behind_b13] at hM
   clear hI53z
   refine W.seq <| sQ rfl <| sM (I (k : Int)) rfl <| sM v_w_ rfl <| sM (I (b : Int)) rfl ?_
   obtain ⟨sd59z, hM⟩ := M.e_gd hM
   refine s_val (x_ix (a := v_w_) (b := I (b : Int)) (v := vat v_w_ 3 (Int.toNat (b : Int))) rfl rfl (Sl.ix (α := Work) T39.und T39.size hs_w_ (by omega) (by omega))) <| s_val (x_fa (a := vat v_w_ 3 (Int.toNat (b : Int))) (v := fat (vat v_w_ 3 (Int.toNat (b : Int))) 0) rfl (fa_pl Fd138_0 Sz34 (Sl.pl (i := (b : Int)) hs_w_ (by omega) (by omega)))) ?_
   obtain ⟨u60z, ha_u60z, hs61z⟩ := Work_at0 hs_w_ (i := (b : Int)) (by omega) (by omega)
   replace hs61z : Sl _ u60z (w_.getD b default).of := hs61z
   have hl_hs61z := hs61z.len_le
   refine s_val (x_ld (p := fat (vat v_w_ 3 (Int.toNat (b : Int))) 0) (v := u60z) rfl (ld_sc Sc34 (At.mono (ha_u60z) (hC_w_.at H)))) ?_
   have hl62z := (hs61z).len_le
   refine s_val (x_lenS T34.und rfl hs61z) <| sC (k : Int) (((w_.getD b default).of).length : Int) (decide ((k : Int) < (((w_.getD b default).of).length : Int))) rfl rfl rfl <| s_nil ?_
   refine W.cond (decide ((k : Int) < (((w_.getD b default).of).length : Int))) rfl (fun c63z => ?_) (fun c63z => ?_)
   ·replace hM := M.e_t hM c63z
    simp only [qz1, qz2, qz3, qz4, qz5, qz6, ne_eq, qz7] at c63z
    refine W.skip <| W.seq <| W.block <| sQ rfl <| sM v_w_ rfl <| sM (I (b : Int)) rfl <| s_val (x_ix (a := v_w_) (b := I (b : Int)) (v := vat v_w_ 3 (Int.toNat (b : Int))) rfl rfl (Sl.ix (α := Work) T39.und T39.size hs_w_ (by omega) (by omega))) <| s_val (x_fa (a := vat v_w_ 3 (Int.toNat (b : Int))) (v := fat (vat v_w_ 3 (Int.toNat (b : Int))) 0) rfl (fa_pl Fd138_0 Sz34 (Sl.pl (i := (b : Int)) hs_w_ (by omega) (by omega)))) ?_
    obtain ⟨u64z, ha_u64z, hs65z⟩ := Work_at0 hs_w_ (i := (b : Int)) (by omega) (by omega)
    replace hs65z : Sl _ u64z (w_.getD b default).of := hs65z
    have hl_hs65z := hs65z.len_le
    refine s_val (x_ld (p := fat (vat v_w_ 3 (Int.toNat (b : Int))) 0) (v := u64z) rfl (ld_sc Sc34 (At.mono (ha_u64z) (hC_w_.at H)))) <| sM (I (k : Int)) rfl ?_
    obtain ⟨sd66z, hM⟩ := M.e_gd hM
    refine s_val (x_ix (a := u64z) (b := I (k : Int)) (v := vat u64z 1 (Int.toNat (k : Int))) rfl rfl (Sl.ix (α := Int) T34.und T34.size hs65z (by omega) (by omega))) <| s_val (x_ld (p := vat u64z 1 (Int.toNat (k : Int))) (v := I (((w_.getD b default).of).getD k 0)) rfl (ld_sc Sc3 (At.mono (Int_at hs65z (i := (k : Int)) (by omega) (by omega)) (hC_w_.at H)))) <| sA (I (((w_.getD b default).of).getD k 0)) rfl <| s_nil <| sQ rfl <| sA (I 0) rfl <| s_nil <| W.block ?_
    obtain ⟨ex67z, hi68z, hk69z⟩ := M.e_bind hM
    obtain ⟨m0_, hi68z⟩ := M.e_iter hi68z
    refine W.loop (fun m σ W => ∃ (l4 : List (List Bool)) (changed : Bool) (a : Nat) (v_l4 : Value) (us_l4 : List SV) (ρ : Env), σ = upds ρ [(0, v_w_), (3, v_l4), (5, B changed), (6, I (b : Int)), (7, I (k : Int)), (8, I (((w_.getD b default).of).getD k 0)), (9, I (a : Int))] ∧ M.iterN (m_nilometerref13_behind_b12 w_ b k) m (l4, changed, a) = some ex67z ∧ St w W [cMat (α := Bool) 147 4 v_l4 us_l4 l4] R ∧ us_l4.length = l4.length) ?_ ?_
    ·exact ⟨_, l7, changed3, 0, v_l7, us_l7, _, upds_of _ _ ⟨rfl, rfl, rfl, rfl, rfl, rfl, rfl, trivial⟩, hi68z, H, hus_l7⟩
    rintro m72z σ w70z ⟨l4, changed, a, v_l4, us_l4, ρ, rfl, hI71z, H, hus_l4⟩
    obtain ⟨m73z, lt74z, x75z, hM, hN76z⟩ := M.e_iterN hI71z
    simp only [m_nilometerref13_behind_b12] at hM
    clear hI71z
    refine W.seq <| sQ rfl <| sM (I (a : Int)) rfl <| sM v_w_ rfl ?_
    have hl77z := (hs_w_).len_le
    refine s_val (x_lenS T39.und rfl hs_w_) <| sC (a : Int) (w_.length : Int) (decide ((a : Int) < (w_.length : Int))) rfl rfl rfl <| s_nil ?_
    refine W.cond (decide ((a : Int) < (w_.length : Int))) rfl (fun c78z => ?_) (fun c78z => ?_)
    ·replace hM := M.e_t hM c78z
     simp only [qz1, qz2, qz3, qz4, qz5, qz6, ne_eq, qz7] at c78z
     refine W.skip <| W.seq <| W.block <| sQ rfl <| sM (I (a : Int)) rfl <| sM (I (((w_.getD b default).of).getD k 0)) rfl <| sC (a : Int) (((w_.getD b default).of).getD k 0) ((a : Int) == (((w_.getD b default).of).getD k 0)) rfl rfl rfl <| sM (B ((a : Int) == (((w_.getD b default).of).getD k 0))) rfl <| g_val (!((a : Int) == (((w_.getD b default).of).getD k 0))) (gy_f rfl) (fun hg => x_mv (v := v_l4) rfl) <| g_val (!((a : Int) == (((w_.getD b default).of).getD k 0))) (gy_f rfl) (fun hg => x_mv (v := I (a : Int)) rfl) ?_
     obtain ⟨sd79z, hM⟩ := M.e_grd hM
     replace sd79z := M.imp_of sd79z
     simp only [Bool.and_eq_true, decide_eq_true_eq] at sd79z
     refine g_val (!((a : Int) == (((w_.getD b default).of).getD k 0))) (gy_f rfl) (fun hg => x_ix (a := v_l4) (b := I (a : Int)) (v := vat v_l4 1 (Int.toNat (a : Int))) (gd_of (c := !((a : Int) == (((w_.getD b default).of).getD k 0))) hg (v_l4)) (gd_of (c := !((a : Int) == (((w_.getD b default).of).getD k 0))) hg (I (a : Int))) (Sl.ix (α := SV) T145.und T145.size (ownSl (matOuter (H.get (k := 0) rfl))) (by have hu_ := hus_l4; have h1_ := sd79z.resolve_left (by rw [hg]; decide); first | exact h1_ | exact h1_.1 | exact h1_.2 | omega | (have hx_ := hg; simp at hx_; omega)) (by have hu_ := hus_l4; have h1_ := sd79z.resolve_left (by rw [hg]; decide); first | exact h1_ | exact h1_.1 | exact h1_.2 | omega | (have hx_ := hg; simp at hx_; omega)))) <| g_val (!((a : Int) == (((w_.getD b default).of).getD k 0))) (gy_f rfl) (fun hg => x_ld (p := vat v_l4 1 (Int.toNat (a : Int))) (v := ((us_l4).getD a default).v) (gd_of (c := !((a : Int) == (((w_.getD b default).of).getD k 0))) hg (vat v_l4 1 (Int.toNat (a : Int)))) (ld_sc Sc147 (At.mono (matCells (i := (a : Int)) (H.get (k := 0) rfl) hus_l4 (by have hu_ := hus_l4; have h1_ := sd79z.resolve_left (by rw [hg]; decide); first | exact h1_ | exact h1_.1 | exact h1_.2 | omega | (have hx_ := hg; simp at hx_; omega)) (by have hu_ := hus_l4; have h1_ := sd79z.resolve_left (by rw [hg]; decide); first | exact h1_ | exact h1_.1 | exact h1_.2 | omega | (have hx_ := hg; simp at hx_; omega))) (ownLe _ (matOuter (H.get (k := 0) rfl)))))) <| g_val (!((a : Int) == (((w_.getD b default).of).getD k 0))) (gy_f rfl) (fun hg => x_mv (v := I (((w_.getD b default).of).getD k 0)) rfl) ?_
     obtain ⟨sd80z, hM⟩ := M.e_grd hM
     replace sd80z := M.imp_of sd80z
     simp only [Bool.and_eq_true, decide_eq_true_eq] at sd80z
     refine g_val (!((a : Int) == (((w_.getD b default).of).getD k 0))) (gy_f rfl) (fun hg => x_ix (a := (((us_l4).getD a default).v)) (b := I (((w_.getD b default).of).getD k 0)) (v := vat (((us_l4).getD a default).v) 1 (Int.toNat (((w_.getD b default).of).getD k 0))) (gd_of (c := !((a : Int) == (((w_.getD b default).of).getD k 0))) hg (((us_l4).getD a default).v)) (gd_of (c := !((a : Int) == (((w_.getD b default).of).getD k 0))) hg (I (((w_.getD b default).of).getD k 0))) (Sl.ix (α := Bool) T147.und T147.size (ownSl (matRow (H.get (k := 0) rfl) hus_l4 (by have hu_ := hus_l4; have h1_ := sd79z.resolve_left (by rw [hg]; decide); have h2_ := sd80z.resolve_left (by rw [hg]; decide); first | exact h1_ | exact h1_.1 | exact h1_.2 | exact h2_ | exact h2_.1 | exact h2_.2 | omega | (have hx_ := hg; simp at hx_; omega)))) (by have h1_ := sd79z.resolve_left (by rw [hg]; decide); have h2_ := sd80z.resolve_left (by rw [hg]; decide); first | exact h1_ | exact h1_.1 | exact h1_.2 | exact h2_ | exact h2_.1 | exact h2_.2 | omega | (have hx_ := hg; simp at hx_; omega)) (by have h1_ := sd79z.resolve_left (by rw [hg]; decide); have h2_ := sd80z.resolve_left (by rw [hg]; decide); first | exact h1_ | exact h1_.1 | exact h1_.2 | exact h2_ | exact h2_.1 | exact h2_.2 | omega | (have hx_ := hg; simp at hx_; omega)))) <| g_val (!((a : Int) == (((w_.getD b default).of).getD k 0))) (gy_f rfl) (fun hg => x_ld (p := vat (((us_l4).getD a default).v) 1 (Int.toNat (((w_.getD b default).of).getD k 0))) (v := B ((l4.getD a ([])).getD (Int.toNat (((w_.getD b default).of).getD k 0)) false)) (gd_of (c := !((a : Int) == (((w_.getD b default).of).getD k 0))) hg (vat (((us_l4).getD a default).v) 1 (Int.toNat (((w_.getD b default).of).getD k 0)))) (ld_sc Sc4 (At.mono (Bool_at (ownSl (matRow (H.get (k := 0) rfl) hus_l4 (by have hu_ := hus_l4; have h1_ := sd79z.resolve_left (by rw [hg]; decide); have h2_ := sd80z.resolve_left (by rw [hg]; decide); first | exact h1_ | exact h1_.1 | exact h1_.2 | exact h2_ | exact h2_.1 | exact h2_.2 | omega | (have hx_ := hg; simp at hx_; omega)))) (i := ((w_.getD b default).of).getD k 0) (by have h1_ := sd79z.resolve_left (by rw [hg]; decide); have h2_ := sd80z.resolve_left (by rw [hg]; decide); first | exact h1_ | exact h1_.1 | exact h1_.2 | exact h2_ | exact h2_.1 | exact h2_.2 | omega | (have hx_ := hg; simp at hx_; omega)) (by have h1_ := sd79z.resolve_left (by rw [hg]; decide); have h2_ := sd80z.resolve_left (by rw [hg]; decide); first | exact h1_ | exact h1_.1 | exact h1_.2 | exact h2_ | exact h2_.1 | exact h2_.2 | omega | (have hx_ := hg; simp at hx_; omega))) (ownLe _ (matRow (H.get (k := 0) rfl) hus_l4 (by have hu_ := hus_l4; have h1_ := sd79z.resolve_left (by rw [hg]; decide); have h2_ := sd80z.resolve_left (by rw [hg]; decide); first | exact h1_ | exact h1_.1 | exact h1_.2 | exact h2_ | exact h2_.1 | exact h2_.2 | omega | (have hx_ := hg; simp at hx_; omega))))))) <| s_val (x_por (b := (a : Int) == (((w_.getD b default).of).getD k 0)) (r := (l4.getD a ([])).getD (Int.toNat (((w_.getD b default).of).getD k 0)) false) rfl rfl (fun hb => gd_of (c := !((a : Int) == (((w_.getD b default).of).getD k 0))) (by first | exact hb | (rw [hb]; rfl) | simp_all) (B ((l4.getD a ([])).getD (Int.toNat (((w_.getD b default).of).getD k 0)) false)))) <| sM (B (((a : Int) == (((w_.getD b default).of).getD k 0)) || ((l4.getD a ([])).getD (Int.toNat (((w_.getD b default).of).getD k 0)) false))) rfl <| g_val (((a : Int) == (((w_.getD b default).of).getD k 0)) || ((l4.getD a ([])).getD (Int.toNat (((w_.getD b default).of).getD k 0)) false)) (gy_t rfl) (fun hg => x_mv (v := v_l4) rfl) <| g_val (((a : Int) == (((w_.getD b default).of).getD k 0)) || ((l4.getD a ([])).getD (Int.toNat (((w_.getD b default).of).getD k 0)) false)) (gy_t rfl) (fun hg => x_mv (v := I (a : Int)) rfl) ?_
     obtain ⟨sd81z, hM⟩ := M.e_grd hM
     replace sd81z := M.imp_of sd81z
     simp only [Bool.and_eq_true, decide_eq_true_eq] at sd81z
     refine g_val (((a : Int) == (((w_.getD b default).of).getD k 0)) || ((l4.getD a ([])).getD (Int.toNat (((w_.getD b default).of).getD k 0)) false)) (gy_t rfl) (fun hg => x_ix (a := v_l4) (b := I (a : Int)) (v := vat v_l4 1 (Int.toNat (a : Int))) (gd_of (c := (((a : Int) == (((w_.getD b default).of).getD k 0)) || ((l4.getD a ([])).getD (Int.toNat (((w_.getD b default).of).getD k 0)) false))) hg (v_l4)) (gd_of (c := (((a : Int) == (((w_.getD b default).of).getD k 0)) || ((l4.getD a ([])).getD (Int.toNat (((w_.getD b default).of).getD k 0)) false))) hg (I (a : Int))) (Sl.ix (α := SV) T145.und T145.size (ownSl (matOuter (H.get (k := 0) rfl))) (by have hu_ := hus_l4; have h1_ := sd81z.resolve_left (by rw [hg]; decide); first | exact h1_ | exact h1_.1 | exact h1_.2 | omega | (have hx_ := hg; simp at hx_; omega)) (by have hu_ := hus_l4; have h1_ := sd81z.resolve_left (by rw [hg]; decide); first | exact h1_ | exact h1_.1 | exact h1_.2 | omega | (have hx_ := hg; simp at hx_; omega)))) <| g_val (((a : Int) == (((w_.getD b default).of).getD k 0)) || ((l4.getD a ([])).getD (Int.toNat (((w_.getD b default).of).getD k 0)) false)) (gy_t rfl) (fun hg => x_ld (p := vat v_l4 1 (Int.toNat (a : Int))) (v := ((us_l4).getD a default).v) (gd_of (c := (((a : Int) == (((w_.getD b default).of).getD k 0)) || ((l4.getD a ([])).getD (Int.toNat (((w_.getD b default).of).getD k 0)) false))) hg (vat v_l4 1 (Int.toNat (a : Int)))) (ld_sc Sc147 (At.mono (matCells (i := (a : Int)) (H.get (k := 0) rfl) hus_l4 (by have hu_ := hus_l4; have h1_ := sd81z.resolve_left (by rw [hg]; decide); first | exact h1_ | exact h1_.1 | exact h1_.2 | omega | (have hx_ := hg; simp at hx_; omega)) (by have hu_ := hus_l4; have h1_ := sd81z.resolve_left (by rw [hg]; decide); first | exact h1_ | exact h1_.1 | exact h1_.2 | omega | (have hx_ := hg; simp at hx_; omega))) (ownLe _ (matOuter (H.get (k := 0) rfl)))))) <| g_val (((a : Int) == (((w_.getD b default).of).getD k 0)) || ((l4.getD a ([])).getD (Int.toNat (((w_.getD b default).of).getD k 0)) false)) (gy_t rfl) (fun hg => x_mv (v := I (b : Int)) rfl) ?_
     obtain ⟨sd82z, hM⟩ := M.e_grd hM
     replace sd82z := M.imp_of sd82z
     simp only [Bool.and_eq_true, decide_eq_true_eq] at sd82z
     refine g_val (((a : Int) == (((w_.getD b default).of).getD k 0)) || ((l4.getD a ([])).getD (Int.toNat (((w_.getD b default).of).getD k 0)) false)) (gy_t rfl) (fun hg => x_ix (a := (((us_l4).getD a default).v)) (b := I (b : Int)) (v := vat (((us_l4).getD a default).v) 1 (Int.toNat (b : Int))) (gd_of (c := (((a : Int) == (((w_.getD b default).of).getD k 0)) || ((l4.getD a ([])).getD (Int.toNat (((w_.getD b default).of).getD k 0)) false))) hg (((us_l4).getD a default).v)) (gd_of (c := (((a : Int) == (((w_.getD b default).of).getD k 0)) || ((l4.getD a ([])).getD (Int.toNat (((w_.getD b default).of).getD k 0)) false))) hg (I (b : Int))) (Sl.ix (α := Bool) T147.und T147.size (ownSl (matRow (H.get (k := 0) rfl) hus_l4 (by have hu_ := hus_l4; have h1_ := sd81z.resolve_left (by rw [hg]; decide); have h2_ := sd82z.resolve_left (by rw [hg]; decide); first | exact h1_ | exact h1_.1 | exact h1_.2 | exact h2_ | exact h2_.1 | exact h2_.2 | omega | (have hx_ := hg; simp at hx_; omega)))) (by have h1_ := sd81z.resolve_left (by rw [hg]; decide); have h2_ := sd82z.resolve_left (by rw [hg]; decide); first | exact h1_ | exact h1_.1 | exact h1_.2 | exact h2_ | exact h2_.1 | exact h2_.2 | omega | (have hx_ := hg; simp at hx_; omega)) (by have h1_ := sd81z.resolve_left (by rw [hg]; decide); have h2_ := sd82z.resolve_left (by rw [hg]; decide); first | exact h1_ | exact h1_.1 | exact h1_.2 | exact h2_ | exact h2_.1 | exact h2_.2 | omega | (have hx_ := hg; simp at hx_; omega)))) <| g_val (((a : Int) == (((w_.getD b default).of).getD k 0)) || ((l4.getD a ([])).getD (Int.toNat (((w_.getD b default).of).getD k 0)) false)) (gy_t rfl) (fun hg => x_ld (p := vat (((us_l4).getD a default).v) 1 (Int.toNat (b : Int))) (v := B ((l4.getD a ([])).getD b false)) (gd_of (c := (((a : Int) == (((w_.getD b default).of).getD k 0)) || ((l4.getD a ([])).getD (Int.toNat (((w_.getD b default).of).getD k 0)) false))) hg (vat (((us_l4).getD a default).v) 1 (Int.toNat (b : Int)))) (ld_sc Sc4 (At.mono (Bool_at (ownSl (matRow (H.get (k := 0) rfl) hus_l4 (by have hu_ := hus_l4; have h1_ := sd81z.resolve_left (by rw [hg]; decide); have h2_ := sd82z.resolve_left (by rw [hg]; decide); first | exact h1_ | exact h1_.1 | exact h1_.2 | exact h2_ | exact h2_.1 | exact h2_.2 | omega | (have hx_ := hg; simp at hx_; omega)))) (i := (b : Int)) (by have h1_ := sd81z.resolve_left (by rw [hg]; decide); have h2_ := sd82z.resolve_left (by rw [hg]; decide); first | exact h1_ | exact h1_.1 | exact h1_.2 | exact h2_ | exact h2_.1 | exact h2_.2 | omega | (have hx_ := hg; simp at hx_; omega)) (by have h1_ := sd81z.resolve_left (by rw [hg]; decide); have h2_ := sd82z.resolve_left (by rw [hg]; decide); first | exact h1_ | exact h1_.1 | exact h1_.2 | exact h2_ | exact h2_.1 | exact h2_.2 | omega | (have hx_ := hg; simp at hx_; omega))) (ownLe _ (matRow (H.get (k := 0) rfl) hus_l4 (by have hu_ := hus_l4; have h1_ := sd81z.resolve_left (by rw [hg]; decide); have h2_ := sd82z.resolve_left (by rw [hg]; decide); first | exact h1_ | exact h1_.1 | exact h1_.2 | exact h2_ | exact h2_.1 | exact h2_.2 | omega | (have hx_ := hg; simp at hx_; omega))))))) <| g_val (((a : Int) == (((w_.getD b default).of).getD k 0)) || ((l4.getD a ([])).getD (Int.toNat (((w_.getD b default).of).getD k 0)) false)) (gy_t rfl) (fun hg => x_not (b := (l4.getD a ([])).getD b false) (gd_of (c := (((a : Int) == (((w_.getD b default).of).getD k 0)) || ((l4.getD a ([])).getD (Int.toNat (((w_.getD b default).of).getD k 0)) false))) hg (B ((l4.getD a ([])).getD b false)))) <| s_val (x_pand (b := (((a : Int) == (((w_.getD b default).of).getD k 0)) || ((l4.getD a ([])).getD (Int.toNat (((w_.getD b default).of).getD k 0)) false))) (r := !((l4.getD a ([])).getD b false)) rfl (fun hb => gd_of (c := (((a : Int) == (((w_.getD b default).of).getD k 0)) || ((l4.getD a ([])).getD (Int.toNat (((w_.getD b default).of).getD k 0)) false))) (by first | exact hb | (rw [hb]; rfl) | simp_all) (B (!((l4.getD a ([])).getD b false)))) rfl) <| s_nil ?_
     refine W.cond ((((a : Int) == (((w_.getD b default).of).getD k 0)) || ((l4.getD a ([])).getD (Int.toNat (((w_.getD b default).of).getD k 0)) false)) && (!((l4.getD a ([])).getD b false))) rfl (fun c83z => ?_) (fun c83z => ?_)
     ·replace hM := M.e_t hM c83z
      refine sQ rfl <| sM v_l4 rfl <| sM (I (a : Int)) rfl ?_
      obtain ⟨sd84z, hM⟩ := M.e_gd hM
      refine s_val (x_ix (a := v_l4) (b := I (a : Int)) (v := vat v_l4 1 (Int.toNat (a : Int))) rfl rfl (Sl.ix (α := SV) T145.und T145.size (ownSl (matOuter (H.get (k := 0) rfl))) (by have hu_ := hus_l4; omega) (by have hu_ := hus_l4; omega))) <| s_val (x_ld (p := vat v_l4 1 (Int.toNat (a : Int))) (v := ((us_l4).getD a default).v) rfl (ld_sc Sc147 (At.mono (matCells (i := (a : Int)) (H.get (k := 0) rfl) hus_l4 (by have hu_ := hus_l4; omega) (by have hu_ := hus_l4; omega)) (ownLe _ (matOuter (H.get (k := 0) rfl)))))) <| sM (I (b : Int)) rfl ?_
      obtain ⟨sd85z, hM⟩ := M.e_gd hM
      refine s_val (x_ix (a := (((us_l4).getD a default).v)) (b := I (b : Int)) (v := vat (((us_l4).getD a default).v) 1 (Int.toNat (b : Int))) rfl rfl (Sl.ix (α := Bool) T147.und T147.size (ownSl (matRow (H.get (k := 0) rfl) hus_l4 (by have hu_ := hus_l4; omega))) (by omega) (by omega))) ?_
      refine t_matst (k := 0) (i := a) (j := (b : Int)) (T := l4) (T' := l4.set a ((l4.getD a ([])).set b true)) (L' := [cMat (α := Bool) 147 4 v_l4 us_l4 (l4.set a ((l4.getD a ([])).set b true))]) H rfl hus_l4 Sz4 (by have hu_ := hus_l4; omega) (by omega) (by omega) true rfl rfl rfl rfl rfl ?_
      intro w86z H
      have hus87z : (us_l4).length = (l4.set a ((l4.getD a ([])).set b true)).length := hus_l4.trans (List.length_set).symm
      refine s_nil <| W.region rfl <| sA (B true) rfl <| s_nil <| W.region rfl <| sM (I (a : Int)) rfl <| sR (a : Int) 1 ((a : Int) + 1) rfl rfl rfl (by omega) <| sA (I ((a : Int) + 1)) rfl <| s_nil ?_
      exact ⟨m73z, lt74z, l4.set a ((l4.getD a ([])).set b true), true, a + 1, v_l4, us_l4, _, upds_of _ _ ⟨rfl, rfl, rfl, rfl, rfl, rfl, rfl, trivial⟩, M.e_inl hM hN76z, H, hus87z⟩
     replace hM := M.e_f hM c83z
     refine W.skip <| W.region rfl <| sM (I (a : Int)) rfl <| sR (a : Int) 1 ((a : Int) + 1) rfl rfl rfl (by omega) <| sA (I ((a : Int) + 1)) rfl <| s_nil ?_
     exact ⟨m73z, lt74z, l4, changed, a + 1, v_l4, us_l4, _, upds_of _ _ ⟨rfl, rfl, rfl, rfl, rfl, rfl, rfl, trivial⟩, M.e_inl hM hN76z, H, hus_l4⟩
    replace hM := M.e_f hM c78z
    simp only [qz1, qz2, qz3, qz4, qz5, qz6, ne_eq, qz7] at c78z
    refine W.exit ?_
    have hX88z := M.e_inr hM hN76z
    subst hX88z
    replace hM := hk69z
    try dsimp only at hM
    refine W.region rfl <| sM (I (k : Int)) rfl <| sR (k : Int) 1 ((k : Int) + 1) rfl rfl rfl (by omega) <| sA (I ((k : Int) + 1)) rfl <| s_nil ?_
    exact ⟨m55z, lt56z, l4, changed, k + 1, v_l4, us_l4, _, upds_of _ _ ⟨rfl, rfl, rfl, rfl, rfl, trivial⟩, M.e_inl hM hN58z, H, hus_l4⟩
   replace hM := M.e_f hM c63z
   simp only [qz1, qz2, qz3, qz4, qz5, qz6, ne_eq, qz7] at c63z
   refine W.exit ?_
   have hX89z := M.e_inr hM hN58z
   subst hX89z
   replace hM := hk51z
   try dsimp only at hM
   refine W.region rfl <| sM (I (b : Int)) rfl <| sR (b : Int) 1 ((b : Int) + 1) rfl rfl rfl (by omega) <| sA (I ((b : Int) + 1)) rfl <| s_nil ?_
   exact ⟨m43z, lt44z, l7, changed3, b + 1, v_l7, us_l7, _, upds_of _ _ ⟨rfl, rfl, rfl, rfl, trivial⟩, M.e_inl hM hN46z, H, hus_l7⟩
  replace hM := M.e_f hM c48z
  simp only [qz1, qz2, qz3, qz4, qz5, qz6, ne_eq, qz7] at c48z
  refine W.exit ?_
  have hX90z := M.e_inr hM hN46z
  subst hX90z
  replace hM := hk39z
  try dsimp only at hM
  exact ⟨m32z, lt33z, l10, changed5, v_l10, us_l10, _, upds_of _ _ ⟨rfl, rfl, rfl, trivial⟩, M.e_inl hM hN35z, H, hus_l10⟩
 replace hM := M.e_f hM c36z
 refine W.exit ?_
 have hX91z := M.e_inr hM hN35z
 subst hX91z
 replace hM := hk28z
 try dsimp only at hM
 refine sQ rfl <| sM v_l13 rfl <| sA v_l13 rfl <| s_nil ?_
 refine W.ret ?_
 obtain ⟨Bs_5, H, hs92z⟩ := H.matE (k := 0) rfl hus_l13
 replace H : St w w29z [cRo Bs_5] R := H
 have hr_ := M.e_pure hM
 exact ⟨_, resE_tmp rfl, ⟨l13, v_l13, Bs_5, hr_, rfl, H, hs92z⟩⟩

def m_nilometerref13_Check_b0 (w_ : List Work) (r2 : List (List Bool)) : Nat → M (Nat ⊕ (Unit ⊕ Unit)) := fun i =>
  bif decide ((i : Int) < (w_.length : Int)) then (
  M.grd (decide ((i : Int) < (r2.length : Int))) <|
  M.grd (decide ((i : Int) < ((r2.getD i ([])).length : Int))) <|
  bif (r2.getD i ([])).getD i false then (
  M.pure (.inr (.inl ())))
  else (
  M.pure (.inl (i + 1))))
  else (
  M.pure (.inr (.inr ())))
def m_nilometerref13_Check (w_ : List Work) : M Int :=
  bif (rightE w_) != 0 then (
  M.pure (rightE w_))
  else (
  M.bind (m_nilometerref13_behind w_) fun r2 =>
  M.bind (M.iter (m_nilometerref13_Check_b0 w_ r2) 0) fun x_ => match x_ with
  | (.inl (_ : Unit)) => (
  M.pure 9)
  | (.inr (_ : Unit)) => (
  M.pure 0))
theorem nilometerref13_Check_ok {R : List Chunk} {C_w_ : Cells} {v_w_ : Value} (w_ : List Work) (hC_w_ : Reads R C_w_) (hs_w_ : Sl C_w_ v_w_ w_) {r : Int} (hM : (m_nilometerref13_Check w_).Ends r) (w : World) (H : St w w [] R) : Ret Try.prog 71 #[v_w_] w fun v w' => ∃ (y0 : Int), y0 = r ∧ v = I y0 ∧ St w w' [] R := by
 refine ret_of_W Try.func71 rfl rfl rfl ?_
 refine sQ rfl <| sA (I 0) rfl <| s_nil <| W.seq <| sQ rfl <| sM v_w_ rfl ?_
 refine s_call cf135 [v_w_] rfl (refRight _ (hs_w_.mono (hC_w_.at H))) ?_
 rintro _ w1z ⟨rfl, hx_⟩
 replace H : St w w1z [] R := H.ext hx_
 clear hx_
 refine sA (I (rightE w_)) rfl <| s_nil <| sQ rfl <| sM (I (rightE w_)) rfl <| sC (rightE w_) 0 ((rightE w_) != 0) rfl rfl rfl <| s_nil ?_
 refine W.cond ((rightE w_) != 0) rfl (fun c2z => ?_) (fun c2z => ?_)
 ·replace hM := M.e_t hM c2z
  simp only [qz1, qz2, qz3, qz4, qz5, qz6, ne_eq, qz7] at c2z
  refine sQ rfl <| sM (I (rightE w_)) rfl <| sA (I (rightE w_)) rfl <| s_nil ?_
  refine W.ret ?_
  have hr_ := M.e_pure hM
  exact ⟨_, resE_tmp rfl, ⟨(rightE w_), hr_, rfl, H⟩⟩
 replace hM := M.e_f hM c2z
 simp only [qz1, qz2, qz3, qz4, qz5, qz6, ne_eq, qz7] at c2z
 refine W.skip <| sQ rfl <| sM v_w_ rfl ?_
 obtain ⟨r4z, hx3z, hM⟩ := M.e_bind hM
 refine s_call cf94 [v_w_] rfl (nilometerref13_behind_ok w_ (hC_w_.app _) hs_w_ hx3z _ (St.give (T := []) H rfl)) ?_
 rintro vq w5z ⟨r2, u0_1, Bs1_2, hr6z, hvq, H2_, hf7z⟩
 subst hr6z
 subst vq
 try dsimp only at hM
 replace H : St w w5z [cRo Bs1_2] R := H.back H2_ rfl
 clear H2_
 refine sA u0_1 rfl <| s_nil <| W.seq <| sQ rfl <| sA (I 0) rfl <| s_nil <| W.block ?_
 obtain ⟨ex8z, hi9z, hk10z⟩ := M.e_bind hM
 obtain ⟨m0_, hi9z⟩ := M.e_iter hi9z
 refine W.loop (fun m σ W => ∃ (i : Nat) (ρ : Env), σ = upds ρ [(0, v_w_), (4, u0_1), (5, I (i : Int))] ∧ M.iterN (m_nilometerref13_Check_b0 w_ r2) m i = some ex8z ∧ St w W [cRo Bs1_2] R) ?_ ?_
 ·exact ⟨_, 0, _, upds_of _ _ ⟨rfl, rfl, rfl, trivial⟩, hi9z, H⟩
 rintro m13z σ w11z ⟨i, ρ, rfl, hI12z, H⟩
 obtain ⟨m14z, lt15z, x16z, hM, hN17z⟩ := M.e_iterN hI12z
 simp only [m_nilometerref13_Check_b0] at hM
 clear hI12z
 refine W.seq <| sQ rfl <| sM (I (i : Int)) rfl <| sM v_w_ rfl ?_
 have hl18z := (hs_w_).len_le
 refine s_val (x_lenS T39.und rfl hs_w_) <| sC (i : Int) (w_.length : Int) (decide ((i : Int) < (w_.length : Int))) rfl rfl rfl <| s_nil ?_
 refine W.cond (decide ((i : Int) < (w_.length : Int))) rfl (fun c19z => ?_) (fun c19z => ?_)
 ·replace hM := M.e_t hM c19z
  simp only [qz1, qz2, qz3, qz4, qz5, qz6, ne_eq, qz7] at c19z
  refine W.skip <| W.seq <| W.block <| sQ rfl <| sM u0_1 rfl <| sM (I (i : Int)) rfl ?_
  obtain ⟨sd20z, hM⟩ := M.e_gd hM
  refine s_val (x_ix (a := u0_1) (b := I (i : Int)) (v := vat u0_1 1 (Int.toNat (i : Int))) rfl rfl (Sl.ix (α := List Bool) T145.und T145.size hf7z (by omega) (by omega))) ?_
  obtain ⟨u21z, ha_u21z, hs22z⟩ := List_at hf7z (i := (i : Int)) (by omega) (by omega)
  replace hs22z : Sl _ u21z (r2.getD i ([])) := hs22z
  have hl_hs22z := hs22z.len_le
  refine s_val (x_ld (p := vat u0_1 1 (Int.toNat (i : Int))) (v := u21z) rfl (ld_sc Sc147 (At.mono (ha_u21z) (roLe _ (H.get (k := 0) rfl))))) <| sM (I (i : Int)) rfl ?_
  obtain ⟨sd23z, hM⟩ := M.e_gd hM
  refine s_val (x_ix (a := u21z) (b := I (i : Int)) (v := vat u21z 1 (Int.toNat (i : Int))) rfl rfl (Sl.ix (α := Bool) T147.und T147.size hs22z (by omega) (by omega))) <| s_val (x_ld (p := vat u21z 1 (Int.toNat (i : Int))) (v := B ((r2.getD i ([])).getD i false)) rfl (ld_sc Sc4 (At.mono (Bool_at hs22z (i := (i : Int)) (by omega) (by omega)) (roLe _ (H.get (k := 0) rfl))))) <| s_nil ?_
  refine W.cond ((r2.getD i ([])).getD i false) rfl (fun c24z => ?_) (fun c24z => ?_)
  ·replace hM := M.e_t hM c24z
   refine sQ rfl <| sA (I 9) rfl <| s_nil ?_
   refine W.ret ?_
   have hX25z := M.e_inr hM hN17z
   subst hX25z
   replace hM := hk10z
   try dsimp only at hM
   have hr_ := M.e_pure hM
   exact ⟨_, resE_tmp rfl, ⟨9, hr_, rfl, (H.pick [] (by decide) rfl)⟩⟩
  replace hM := M.e_f hM c24z
  refine W.skip <| W.region rfl <| sM (I (i : Int)) rfl <| sR (i : Int) 1 ((i : Int) + 1) rfl rfl rfl (by omega) <| sA (I ((i : Int) + 1)) rfl <| s_nil ?_
  exact ⟨m14z, lt15z, i + 1, _, upds_of _ _ ⟨rfl, rfl, rfl, trivial⟩, M.e_inl hM hN17z, H⟩
 replace hM := M.e_f hM c19z
 simp only [qz1, qz2, qz3, qz4, qz5, qz6, ne_eq, qz7] at c19z
 refine W.exit ?_
 have hX26z := M.e_inr hM hN17z
 subst hX26z
 replace hM := hk10z
 try dsimp only at hM
 refine sQ rfl <| sA (I 0) rfl <| s_nil ?_
 refine W.ret ?_
 have hr_ := M.e_pure hM
 exact ⟨_, resE_tmp rfl, ⟨0, hr_, rfl, (H.pick [] (by decide) rfl)⟩⟩

def m_nilometerref13_Order_b7 (w_ : List Work) (l : List Int) (i : Int) : (Bool × Nat) → M ((Bool × Nat) ⊕ Bool) := fun (ready, k) =>
  M.grd (decide ((0 : Int) ≤ i) && decide (i < (w_.length : Int))) <|
  bif decide ((k : Int) < (((w_.getD (Int.toNat i) default).of).length : Int)) then (
  M.grd ((!ready || (decide ((k : Int) < (((w_.getD (Int.toNat i) default).of).length : Int))))) <|
  M.pure (.inl ((ready && (l.contains (((w_.getD (Int.toNat i) default).of).getD k 0))), k + 1)))
  else (
  M.pure (.inr ready))
def m_nilometerref13_Order_b8 (w_ : List Work) (l : List Int) : (Int × Int) → M ((Int × Int) ⊕ Int) := fun (next, i) =>
  bif decide (0 ≤ i) then (
  M.bind (M.iter (m_nilometerref13_Order_b7 w_ l i) (!(l.contains i), 0)) fun ready2 =>
  bif ready2 then (
  M.grd (decide ((-9223372036854775808 : Int) ≤ (i - 1)) && decide ((i - 1) ≤ (9223372036854775807 : Int))) <|
  M.pure (.inl (i, i - 1)))
  else (
  M.grd (decide ((-9223372036854775808 : Int) ≤ (i - 1)) && decide ((i - 1) ≤ (9223372036854775807 : Int))) <|
  M.pure (.inl (next, i - 1))))
  else (
  M.pure (.inr next))
def m_nilometerref13_Order_b9 (w_ : List Work) : (List Int) → M ((List Int) ⊕ ((List Int) × (List Int))) := fun l =>
  bif decide ((l.length : Int) < (w_.length : Int)) then (
  M.bind (M.iter (m_nilometerref13_Order_b8 w_ l) (-1, (w_.length : Int) - 1)) fun next2 =>
  M.grd (decide ((l.length + ([(next2 : Int)]).length) * 8 ≤ 140737488355328)) <|
  M.pure (.inl (l ++ ([(next2 : Int)]))))
  else (
  M.pure (.inr (l, l)))
def m_nilometerref13_Order (w_ : List Work) : M ((List Int) × Int) :=
  M.bind (m_nilometerref13_Check w_) fun r2 =>
  bif r2 != 0 then (
  M.pure (([]), r2))
  else (
  M.bind (M.iter (m_nilometerref13_Order_b9 w_) []) fun (l2, l3) =>
  M.pure (l3, 0))
theorem nilometerref13_Order_ok {R : List Chunk} {C_w_ : Cells} {v_w_ : Value} (w_ : List Work) (hC_w_ : Reads R C_w_) (hs_w_ : Sl C_w_ v_w_ w_) {r : ((List Int) × Int)} (hM : (m_nilometerref13_Order w_).Ends r) (w : World) (H : St w w [] R) : Ret Try.prog 72 #[v_w_] w fun v w' => ∃ (y0 : List Int) (y1 : Int) (u0 : Value), (y0, y1) = r ∧ v = .tuple #[u0, I y1] ∧ St w w' [cOwn (α := Int) 3 u0 y0] R := by
 refine ret_of_W Try.func72 rfl rfl rfl ?_
 refine sQ rfl <| sA (.slice none 0 0) rfl <| sA (I 0) rfl <| s_nil <| W.seq <| sQ rfl <| sM v_w_ rfl ?_
 obtain ⟨r2z, hx1z, hM⟩ := M.e_bind hM
 refine s_call cf71 [v_w_] rfl (nilometerref13_Check_ok w_ (hC_w_.app _) hs_w_ hx1z _ (St.give (T := []) H rfl)) ?_
 rintro vq w3z ⟨r2, hr4z, hvq, H2_⟩
 subst hr4z
 subst vq
 try dsimp only at hM
 replace H : St w w3z [] R := H.back H2_ rfl
 clear H2_
 refine sA (I r2) rfl <| s_nil <| sQ rfl <| sM (I r2) rfl <| sC r2 0 (r2 != 0) rfl rfl rfl <| s_nil ?_
 refine W.cond (r2 != 0) rfl (fun c5z => ?_) (fun c5z => ?_)
 ·replace hM := M.e_t hM c5z
  simp only [qz1, qz2, qz3, qz4, qz5, qz6, ne_eq, qz7] at c5z
  refine sQ rfl <| sM (I r2) rfl <| sA (.slice none 0 0) rfl <| sA (I r2) rfl <| s_nil ?_
  refine W.ret ?_
  have hr_ := M.e_pure hM
  replace H : St w w3z [cOwn (α := Int) 3 (.slice none 0 0) ([])] R := H.nilOwn (α := Int) 3
  exact ⟨_, resE_tmp2 rfl, ⟨([]), r2, (.slice none 0 0), hr_, rfl, H⟩⟩
 replace hM := M.e_f hM c5z
 simp only [qz1, qz2, qz3, qz4, qz5, qz6, ne_eq, qz7] at c5z
 refine W.skip <| sQ rfl <| sA (.slice none 0 0) rfl <| s_nil <| W.seq <| W.block ?_
 replace H : St w w3z [cOwn (α := Int) 3 (.slice none 0 0) ([])] R := H.nilOwn (α := Int) 3
 obtain ⟨ex6z, hi7z, hk8z⟩ := M.e_bind hM
 obtain ⟨m0_, hi7z⟩ := M.e_iter hi7z
 refine W.loop (fun m σ W => ∃ (l : List Int) (v_l : Value) (ρ : Env), σ = upds ρ [(0, v_w_), (5, v_l)] ∧ M.iterN (m_nilometerref13_Order_b9 w_) m l = some ex6z ∧ St w W [cOwn (α := Int) 3 v_l l] R) ?_ ?_
 ·exact ⟨_, [], (.slice none 0 0), _, upds_of _ _ ⟨rfl, rfl, trivial⟩, hi7z, H⟩
 rintro m11z σ w9z ⟨l, v_l, ρ, rfl, hI10z, H⟩
 obtain ⟨m12z, lt13z, x14z, hM, hN15z⟩ := M.e_iterN hI10z
 simp only [m_nilometerref13_Order_b9] at hM
 clear hI10z
 refine W.seq <| sQ rfl <| sM v_l rfl ?_
 have hl16z := ((ownSl (H.get (k := 0) rfl))).len_le
 refine s_val (x_lenS T34.und rfl (ownSl (H.get (k := 0) rfl))) <| sM v_w_ rfl ?_
 have hl17z := (hs_w_).len_le
 refine s_val (x_lenS T39.und rfl hs_w_) <| sC (l.length : Int) (w_.length : Int) (decide ((l.length : Int) < (w_.length : Int))) rfl rfl rfl <| s_nil ?_
 refine W.cond (decide ((l.length : Int) < (w_.length : Int))) rfl (fun c18z => ?_) (fun c18z => ?_)
 ·replace hM := M.e_t hM c18z
  simp only [qz1, qz2, qz3, qz4, qz5, qz6, ne_eq, qz7] at c18z
  refine W.skip <| W.block <| sQ rfl <| sA (I (-1)) rfl <| s_nil <| W.seq <| sQ rfl <| sM v_w_ rfl ?_
  have hl19z := (hs_w_).len_le
  refine s_val (x_lenS T39.und rfl hs_w_) <| sR (w_.length : Int) 1 ((w_.length : Int) - 1) rfl rfl rfl (by omega) <| sA (I ((w_.length : Int) - 1)) rfl <| s_nil <| W.block ?_
  obtain ⟨ex20z, hi21z, hk22z⟩ := M.e_bind hM
  obtain ⟨m0_, hi21z⟩ := M.e_iter hi21z
  refine W.loop (fun m σ W => ∃ (next : Int) (i : Int) (ρ : Env), σ = upds ρ [(0, v_w_), (5, v_l), (6, I next), (7, I i)] ∧ M.iterN (m_nilometerref13_Order_b8 w_ l) m (next, i) = some ex20z ∧ St w W [cOwn (α := Int) 3 v_l l] R) ?_ ?_
  ·exact ⟨_, -1, (w_.length : Int) - 1, _, upds_of _ _ ⟨rfl, rfl, rfl, rfl, trivial⟩, hi21z, H⟩
  rintro m25z σ w23z ⟨next, i, ρ, rfl, hI24z, H⟩
  obtain ⟨m26z, lt27z, x28z, hM, hN29z⟩ := M.e_iterN hI24z
  simp only [m_nilometerref13_Order_b8] at hM
  clear hI24z
  refine W.seq <| sQ rfl <| sM (I i) rfl <| sC i 0 (decide (0 ≤ i)) rfl rfl rfl <| s_nil ?_
  refine W.cond (decide (0 ≤ i)) rfl (fun c30z => ?_) (fun c30z => ?_)
  ·replace hM := M.e_t hM c30z
   simp only [qz1, qz2, qz3, qz4, qz5, qz6, ne_eq, qz7] at c30z
   refine W.skip <| W.seq <| W.block <| sQ rfl <| sM v_l rfl <| sM (I i) rfl ?_
   refine s_call cf95 [v_l, I i] rfl (has_any i _ ((ownSl (H.get (k := 0) rfl)).mono (ownLe _ (H.get (k := 0) rfl)))) ?_
   rintro _ w31z ⟨rfl, hx_⟩
   replace H : St w w31z [cOwn (α := Int) 3 v_l l] R := H.ext hx_
   clear hx_
   refine s_val (x_not (b := l.contains i) rfl) <| sA (B (!(l.contains i))) rfl <| s_nil <| W.seq <| sQ rfl <| sA (I 0) rfl <| s_nil <| W.block ?_
   obtain ⟨ex32z, hi33z, hk34z⟩ := M.e_bind hM
   obtain ⟨m0_, hi33z⟩ := M.e_iter hi33z
   refine W.loop (fun m σ W => ∃ (ready : Bool) (k : Nat) (ρ : Env), σ = upds ρ [(0, v_w_), (5, v_l), (6, I next), (7, I i), (8, B ready), (9, I (k : Int))] ∧ M.iterN (m_nilometerref13_Order_b7 w_ l i) m (ready, k) = some ex32z ∧ St w W [cOwn (α := Int) 3 v_l l] R) ?_ ?_
   ·exact ⟨_, !(l.contains i), 0, _, upds_of _ _ ⟨rfl, rfl, rfl, rfl, rfl, rfl, trivial⟩, hi33z, H⟩
   rintro m37z σ w35z ⟨ready, k, ρ, rfl, hI36z, H⟩
   obtain ⟨m38z, lt39z, x40z, hM, hN41z⟩ := M.e_iterN hI36z
   simp only [m_nilometerref13_Order_b7] at hM
   clear hI36z
   refine W.seq <| sQ rfl <| sM (I (k : Int)) rfl <| sM v_w_ rfl <| sM (I i) rfl ?_
   obtain ⟨sd42z, hM⟩ := M.e_gd hM
   refine s_val (x_ix (a := v_w_) (b := I i) (v := vat v_w_ 3 (Int.toNat i)) rfl rfl (Sl.ix (α := Work) T39.und T39.size hs_w_ (by omega) (by omega))) <| s_val (x_fa (a := vat v_w_ 3 (Int.toNat i)) (v := fat (vat v_w_ 3 (Int.toNat i)) 0) rfl (fa_pl Fd138_0 Sz34 (Sl.pl (i := i) hs_w_ (by omega) (by omega)))) ?_
   obtain ⟨u43z, ha_u43z, hs44z⟩ := Work_at0 hs_w_ (i := i) (by omega) (by omega)
   replace hs44z : Sl _ u43z (w_.getD (Int.toNat i) default).of := hs44z
   have hl_hs44z := hs44z.len_le
   refine s_val (x_ld (p := fat (vat v_w_ 3 (Int.toNat i)) 0) (v := u43z) rfl (ld_sc Sc34 (At.mono (ha_u43z) (hC_w_.at H)))) ?_
   have hl45z := (hs44z).len_le
   refine s_val (x_lenS T34.und rfl hs44z) <| sC (k : Int) (((w_.getD (Int.toNat i) default).of).length : Int) (decide ((k : Int) < (((w_.getD (Int.toNat i) default).of).length : Int))) rfl rfl rfl <| s_nil ?_
   refine W.cond (decide ((k : Int) < (((w_.getD (Int.toNat i) default).of).length : Int))) rfl (fun c46z => ?_) (fun c46z => ?_)
   ·replace hM := M.e_t hM c46z
    simp only [qz1, qz2, qz3, qz4, qz5, qz6, ne_eq, qz7] at c46z
    refine W.skip <| W.seq <| W.block <| W.region rfl <| sM (B ready) rfl <| sM (B ready) rfl <| g_val ready (gy_t rfl) (fun hg => x_mv (v := v_l) rfl) <| g_val ready (gy_t rfl) (fun hg => x_mv (v := v_w_) rfl) <| g_val ready (gy_t rfl) (fun hg => x_mv (v := I i) rfl) <| g_val ready (gy_t rfl) (fun hg => x_ix (a := v_w_) (b := I i) (v := vat v_w_ 3 (Int.toNat i)) (gd_of (c := ready) hg (v_w_)) (gd_of (c := ready) hg (I i)) (Sl.ix (α := Work) T39.und T39.size hs_w_ (by first | omega | (have hx_ := hg; simp at hx_; omega)) (by first | omega | (have hx_ := hg; simp at hx_; omega)))) <| g_val ready (gy_t rfl) (fun hg => x_fa (a := vat v_w_ 3 (Int.toNat i)) (v := fat (vat v_w_ 3 (Int.toNat i)) 0) (gd_of (c := ready) hg (vat v_w_ 3 (Int.toNat i))) (fa_pl Fd138_0 Sz34 (Sl.pl (i := i) hs_w_ (by first | omega | (have hx_ := hg; simp at hx_; omega)) (by first | omega | (have hx_ := hg; simp at hx_; omega))))) ?_
    obtain ⟨u47z, ha_u47z, hs48z⟩ := gd_ex (c := ready) fun hg => Work_at0 hs_w_ (i := i) (by first | omega | (have hx_ := hg; simp at hx_; omega)) (by first | omega | (have hx_ := hg; simp at hx_; omega))
    replace hs48z : ready = true → Sl _ u47z (w_.getD (Int.toNat i) default).of := hs48z
    refine g_val ready (gy_t rfl) (fun hg => x_ld (p := fat (vat v_w_ 3 (Int.toNat i)) 0) (v := u47z) (gd_of (c := ready) hg (fat (vat v_w_ 3 (Int.toNat i)) 0)) (ld_sc Sc34 (At.mono (ha_u47z hg) (hC_w_.at H)))) <| g_val ready (gy_t rfl) (fun hg => x_mv (v := I (k : Int)) rfl) ?_
    obtain ⟨sd49z, hM⟩ := M.e_grd hM
    replace sd49z := M.imp_of sd49z
    simp only [Bool.and_eq_true, decide_eq_true_eq] at sd49z
    refine g_val ready (gy_t rfl) (fun hg => x_ix (a := u47z) (b := I (k : Int)) (v := vat u47z 1 (Int.toNat (k : Int))) (gd_of (c := ready) hg (u47z)) (gd_of (c := ready) hg (I (k : Int))) (Sl.ix (α := Int) T34.und T34.size (hs48z hg) (by have h1_ := sd49z.resolve_left (by rw [hg]; decide); first | exact h1_ | exact h1_.1 | exact h1_.2 | omega | (have hx_ := hg; simp at hx_; omega)) (by have h1_ := sd49z.resolve_left (by rw [hg]; decide); first | exact h1_ | exact h1_.1 | exact h1_.2 | omega | (have hx_ := hg; simp at hx_; omega)))) <| g_val ready (gy_t rfl) (fun hg => x_ld (p := vat u47z 1 (Int.toNat (k : Int))) (v := I (((w_.getD (Int.toNat i) default).of).getD k 0)) (gd_of (c := ready) hg (vat u47z 1 (Int.toNat (k : Int)))) (ld_sc Sc3 (At.mono (Int_at (hs48z hg) (i := (k : Int)) (by have h1_ := sd49z.resolve_left (by rw [hg]; decide); first | exact h1_ | exact h1_.1 | exact h1_.2 | omega | (have hx_ := hg; simp at hx_; omega)) (by have h1_ := sd49z.resolve_left (by rw [hg]; decide); first | exact h1_ | exact h1_.1 | exact h1_.2 | omega | (have hx_ := hg; simp at hx_; omega))) (hC_w_.at H)))) ?_
    refine t_gcall ready (gy_t rfl) cf95 (B (l.contains (((w_.getD (Int.toNat i) default).of).getD k 0))) (fun _ => [v_l, I (((w_.getD (Int.toNat i) default).of).getD k 0)]) (fun hg => lst2 (gd_of (c := ready) hg (v_l)) (gd_of (c := ready) hg (I (((w_.getD (Int.toNat i) default).of).getD k 0)))) H (fun hg => Ret.mono (has_any (((w_.getD (Int.toNat i) default).of).getD k 0) _ ((ownSl (H.get (k := 0) rfl)).mono (ownLe _ (H.get (k := 0) rfl)))) fun v_ w_ ⟨hv_, hx_⟩ => ⟨hv_, H.ext hx_⟩) ?_
    intro w50z H
    refine s_val (x_pand (b := ready) (r := l.contains (((w_.getD (Int.toNat i) default).of).getD k 0)) rfl (fun hb => gd_of (c := ready) (by first | exact hb | (rw [hb]; rfl) | simp_all) (B (l.contains (((w_.getD (Int.toNat i) default).of).getD k 0)))) rfl) <| sA (B (ready && (l.contains (((w_.getD (Int.toNat i) default).of).getD k 0)))) rfl <| s_nil <| W.region rfl <| sM (I (k : Int)) rfl <| sR (k : Int) 1 ((k : Int) + 1) rfl rfl rfl (by omega) <| sA (I ((k : Int) + 1)) rfl <| s_nil ?_
    exact ⟨m38z, lt39z, (ready && (l.contains (((w_.getD (Int.toNat i) default).of).getD k 0))), k + 1, _, upds_of _ _ ⟨rfl, rfl, rfl, rfl, rfl, rfl, trivial⟩, M.e_inl hM hN41z, H⟩
   replace hM := M.e_f hM c46z
   simp only [qz1, qz2, qz3, qz4, qz5, qz6, ne_eq, qz7] at c46z
   refine W.exit ?_
   have hX51z := M.e_inr hM hN41z
   subst hX51z
   replace hM := hk34z
   try dsimp only at hM
   refine sQ rfl <| sM (B ready) rfl <| s_nil ?_
   refine W.cond ready rfl (fun c52z => ?_) (fun c52z => ?_)
   ·replace hM := M.e_t hM c52z
    refine W.region rfl <| sM (I i) rfl <| sA (I i) rfl <| s_nil <| W.region rfl <| sM (I i) rfl ?_
    obtain ⟨sd53z, hM⟩ := M.e_gd hM
    refine sR i 1 (i - 1) rfl rfl rfl (by omega) <| sA (I (i - 1)) rfl <| s_nil ?_
    exact ⟨m26z, lt27z, i, i - 1, _, upds_of _ _ ⟨rfl, rfl, rfl, rfl, trivial⟩, M.e_inl hM hN29z, H⟩
   replace hM := M.e_f hM c52z
   refine W.skip <| W.region rfl <| sM (I i) rfl ?_
   obtain ⟨sd54z, hM⟩ := M.e_gd hM
   refine sR i 1 (i - 1) rfl rfl rfl (by omega) <| sA (I (i - 1)) rfl <| s_nil ?_
   exact ⟨m26z, lt27z, next, i - 1, _, upds_of _ _ ⟨rfl, rfl, rfl, rfl, trivial⟩, M.e_inl hM hN29z, H⟩
  replace hM := M.e_f hM c30z
  simp only [qz1, qz2, qz3, qz4, qz5, qz6, ne_eq, qz7] at c30z
  refine W.exit ?_
  have hX55z := M.e_inr hM hN29z
  subst hX55z
  replace hM := hk22z
  try dsimp only at hM
  refine W.region rfl <| sM v_l rfl <| sM (I next) rfl ?_
  refine t_bs (α := Int) T34 [I next] [(next : Int)] H rfl (.cons rfl (Flat.rep_enc _ (next : Int)) <| .nil) rfl rfl rfl ?_
  intro v56z w57z H
  obtain ⟨sd58z, hM⟩ := M.e_gd hM
  refine t_app (α := Int) (k := 1) (l := l) (l2 := [(next : Int)]) (l' := l ++ ([(next : Int)])) (vy := v56z) T34 rfl H rfl rfl rfl (ownSl (H.get (k := 0) rfl)) (ownLe _ (H.get (k := 0) rfl)) (rfl) (by first | omega | (simp only [List.length_nil] at *; omega)) ?_
  intro v59z w60z H
  replace H : St w w60z [cOwn (α := Int) 3 v56z ([(next : Int)]), cOwn (α := Int) 3 v59z (l ++ ([(next : Int)]))] R := H
  refine sA v59z rfl <| s_nil ?_
  exact ⟨m12z, lt13z, l ++ ([(next : Int)]), v59z, _, upds_of _ _ ⟨rfl, rfl, trivial⟩, M.e_inl hM hN15z, (H.pick [1] (by decide) rfl)⟩
 replace hM := M.e_f hM c18z
 simp only [qz1, qz2, qz3, qz4, qz5, qz6, ne_eq, qz7] at c18z
 refine W.exit ?_
 have hX61z := M.e_inr hM hN15z
 subst hX61z
 replace hM := hk8z
 try dsimp only at hM
 refine sQ rfl <| sM v_l rfl <| sA v_l rfl <| sA (I 0) rfl <| s_nil ?_
 refine W.ret ?_
 have hr_ := M.e_pure hM
 exact ⟨_, resE_tmp2 rfl, ⟨l, 0, v_l, hr_, rfl, H⟩⟩

def m_nilometerlaw13_same_b0 (a : List Work) (b : List Work) : Nat → M (Nat ⊕ (Unit ⊕ Unit)) := fun s2 =>
  bif decide ((s2 : Int) < (a.length : Int)) then (
  M.grd (decide ((s2 : Int) < (a.length : Int))) <|
  M.grd (decide ((s2 : Int) < (b.length : Int))) <|
  M.bind (M.pure (decide (((a.getD s2 default).of) = ((b.getD s2 default).of)))) fun s =>
  bif (((((a.getD s2 default).base) != ((b.getD s2 default).base)) || (((a.getD s2 default).minutes) != ((b.getD s2 default).minutes))) || (!s)) then (
  M.pure (.inr (.inl ())))
  else (
  M.pure (.inl (s2 + 1))))
  else (
  M.pure (.inr (.inr ())))
def m_nilometerlaw13_same (a : List Work) (b : List Work) : M Bool :=
  bif (a.length : Int) != (b.length : Int) then (
  M.pure false)
  else (
  M.bind (M.iter (m_nilometerlaw13_same_b0 a b) 0) fun x_ => match x_ with
  | (.inl (_ : Unit)) => (
  M.pure false)
  | (.inr (_ : Unit)) => (
  M.pure true))
theorem nilometerlaw13_same_ok {R : List Chunk} {C_a : Cells} {v_a : Value} {C_b : Cells} {v_b : Value} (a : List Work) (b : List Work) (hC_a : Reads R C_a) (hs_a : Sl C_a v_a a) (hC_b : Reads R C_b) (hs_b : Sl C_b v_b b) {r : Bool} (hM : (m_nilometerlaw13_same a b).Ends r) (w : World) (H : St w w [] R) : Ret Try.prog 28 #[v_a, v_b] w fun v w' => ∃ (y0 : Bool), y0 = r ∧ v = B y0 ∧ St w w' [] R := by
 refine ret_of_W Try.func28 rfl rfl rfl ?_
 refine sQ rfl <| sA (B false) rfl <| s_nil <| W.seq <| sQ rfl <| sM v_a rfl ?_
 have hl1z := (hs_a).len_le
 refine s_val (x_lenS T22.und rfl hs_a) <| sM v_b rfl ?_
 have hl2z := (hs_b).len_le
 refine s_val (x_lenS T22.und rfl hs_b) <| sC (a.length : Int) (b.length : Int) ((a.length : Int) != (b.length : Int)) rfl rfl rfl <| s_nil ?_
 refine W.cond ((a.length : Int) != (b.length : Int)) rfl (fun c3z => ?_) (fun c3z => ?_)
 ·replace hM := M.e_t hM c3z
  simp only [qz1, qz2, qz3, qz4, qz5, qz6, ne_eq, qz7] at c3z
  refine sQ rfl <| sA (B false) rfl <| s_nil ?_
  refine W.ret ?_
  have hr_ := M.e_pure hM
  exact ⟨_, resE_tmp rfl, ⟨false, hr_, rfl, H⟩⟩
 replace hM := M.e_f hM c3z
 simp only [qz1, qz2, qz3, qz4, qz5, qz6, ne_eq, qz7] at c3z
 refine W.skip <| W.seq <| sQ rfl <| sM v_a rfl ?_
 have hl4z := (hs_a).len_le
 refine s_val (x_lenS T22.und rfl hs_a) <| sM (I 0) rfl <| s_nil <| W.block ?_
 obtain ⟨ex5z, hi6z, hk7z⟩ := M.e_bind hM
 obtain ⟨m0_, hi6z⟩ := M.e_iter hi6z
 refine W.loop (fun m σ W => ∃ (s2 : Nat) (ρ : Env), σ = upds ρ [(0, v_a), (1, v_b), (12, I (a.length : Int)), (13, I (s2 : Int))] ∧ M.iterN (m_nilometerlaw13_same_b0 a b) m s2 = some ex5z ∧ St w W [] R) ?_ ?_
 ·exact ⟨_, 0, _, upds_of _ _ ⟨rfl, rfl, rfl, rfl, trivial⟩, hi6z, H⟩
 rintro m10z σ w8z ⟨s2, ρ, rfl, hI9z, H⟩
 obtain ⟨m11z, lt12z, x13z, hM, hN14z⟩ := M.e_iterN hI9z
 simp only [m_nilometerlaw13_same_b0] at hM
 clear hI9z
 refine sQ rfl <| sC (s2 : Int) (a.length : Int) (decide ((s2 : Int) < (a.length : Int))) rfl rfl rfl <| s_nil <| W.seq ?_
 refine W.cond (decide ((s2 : Int) < (a.length : Int))) rfl (fun c15z => ?_) (fun c15z => ?_)
 ·replace hM := M.e_t hM c15z
  simp only [qz1, qz2, qz3, qz4, qz5, qz6, ne_eq, qz7] at c15z
  refine W.skip <| W.seq <| W.block <| sQ rfl <| sM (I (s2 : Int)) rfl <| sA (I (s2 : Int)) rfl <| s_nil <| W.seq ?_
  refine W.draw (fun W => St w W [] R) [(0, true), (1, true), (2, true), (3, true), (4, true), (5, true), (6, true), (7, true), (8, true), (9, true), (10, true), (11, true), (12, true), (13, true), (14, true), (15, true), (16, true), (17, true), (18, true), (19, true), (20, true), (21, true), (22, true), (23, true), (24, true), (25, true), (26, true), (27, true), (28, true), (29, true), (30, true), (31, true), (32, true), (33, true), (34, true), (35, false), (36, true), (37, true)] mixed (by decide +kernel) rfl ?_
  intro w16z hx_
  replace H : St w w16z [] R := H.ext hx_
  clear hx_
  refine ⟨(H.pick [] (by decide) rfl), ?_⟩
  refine d_q rfl (fun w' H => x_mv (v := v_a) rfl) ?_
  refine d_q rfl (fun w' H => x_mv (v := I (s2 : Int)) rfl) ?_
  obtain ⟨sd17z, hM⟩ := M.e_gd hM
  refine d_q rfl (fun w' H => x_ix (a := v_a) (b := I (s2 : Int)) (v := vat v_a 3 (Int.toNat (s2 : Int))) rfl rfl (Sl.ix (α := Work) T22.und T22.size hs_a (by omega) (by omega))) ?_
  refine d_q rfl (fun w' H => x_fa (a := vat v_a 3 (Int.toNat (s2 : Int))) (v := fat (vat v_a 3 (Int.toNat (s2 : Int))) 1) rfl (fa_pl Fd60_1 Sz3 (Sl.pl (i := (s2 : Int)) hs_a (by omega) (by omega)))) ?_
  refine d_q rfl (fun w' H => x_ld (p := fat (vat v_a 3 (Int.toNat (s2 : Int))) 1) (v := I ((a.getD s2 default).base)) rfl (ld_sc Sc3 (At.mono (Work_at1 hs_a (i := (s2 : Int)) (by omega) (by omega)) (hC_a.at H)))) ?_
  refine d_q rfl (fun w' H => x_mv (v := v_b) rfl) ?_
  refine d_q rfl (fun w' H => x_mv (v := I (s2 : Int)) rfl) ?_
  obtain ⟨sd18z, hM⟩ := M.e_gd hM
  refine d_q rfl (fun w' H => x_ix (a := v_b) (b := I (s2 : Int)) (v := vat v_b 3 (Int.toNat (s2 : Int))) rfl rfl (Sl.ix (α := Work) T22.und T22.size hs_b (by omega) (by omega))) ?_
  refine d_q rfl (fun w' H => x_fa (a := vat v_b 3 (Int.toNat (s2 : Int))) (v := fat (vat v_b 3 (Int.toNat (s2 : Int))) 1) rfl (fa_pl Fd60_1 Sz3 (Sl.pl (i := (s2 : Int)) hs_b (by omega) (by omega)))) ?_
  refine d_q rfl (fun w' H => x_ld (p := fat (vat v_b 3 (Int.toNat (s2 : Int))) 1) (v := I ((b.getD s2 default).base)) rfl (ld_sc Sc3 (At.mono (Work_at1 hs_b (i := (s2 : Int)) (by omega) (by omega)) (hC_b.at H)))) ?_
  refine d_q rfl (fun w' H => x_cmp (kd := .i64) (a := (a.getD s2 default).base) (b := (b.getD s2 default).base) (r := ((a.getD s2 default).base) != ((b.getD s2 default).base)) rfl rfl rfl) ?_
  refine d_q rfl (fun w' H => x_mv (v := B (((a.getD s2 default).base) != ((b.getD s2 default).base))) rfl) ?_
  refine d_qg (!(((a.getD s2 default).base) != ((b.getD s2 default).base))) rfl (gy_f rfl) (fun hg => (fun w' H => x_mv (v := v_a) rfl)) ?_
  refine d_qg (!(((a.getD s2 default).base) != ((b.getD s2 default).base))) rfl (gy_f rfl) (fun hg => (fun w' H => x_mv (v := I (s2 : Int)) rfl)) ?_
  refine d_qg (!(((a.getD s2 default).base) != ((b.getD s2 default).base))) rfl (gy_f rfl) (fun hg => (fun w' H => x_ix (a := v_a) (b := I (s2 : Int)) (v := vat v_a 3 (Int.toNat (s2 : Int))) (gd_of (c := !(((a.getD s2 default).base) != ((b.getD s2 default).base))) hg (v_a)) (gd_of (c := !(((a.getD s2 default).base) != ((b.getD s2 default).base))) hg (I (s2 : Int))) (Sl.ix (α := Work) T22.und T22.size hs_a (by first | omega | (have hx_ := hg; simp at hx_; omega)) (by first | omega | (have hx_ := hg; simp at hx_; omega))))) ?_
  refine d_qg (!(((a.getD s2 default).base) != ((b.getD s2 default).base))) rfl (gy_f rfl) (fun hg => (fun w' H => x_fa (a := vat v_a 3 (Int.toNat (s2 : Int))) (v := fat (vat v_a 3 (Int.toNat (s2 : Int))) 2) (gd_of (c := !(((a.getD s2 default).base) != ((b.getD s2 default).base))) hg (vat v_a 3 (Int.toNat (s2 : Int)))) (fa_pl Fd60_2 Sz3 (Sl.pl (i := (s2 : Int)) hs_a (by first | omega | (have hx_ := hg; simp at hx_; omega)) (by first | omega | (have hx_ := hg; simp at hx_; omega)))))) ?_
  refine d_qg (!(((a.getD s2 default).base) != ((b.getD s2 default).base))) rfl (gy_f rfl) (fun hg => (fun w' H => x_ld (p := fat (vat v_a 3 (Int.toNat (s2 : Int))) 2) (v := I ((a.getD s2 default).minutes)) (gd_of (c := !(((a.getD s2 default).base) != ((b.getD s2 default).base))) hg (fat (vat v_a 3 (Int.toNat (s2 : Int))) 2)) (ld_sc Sc3 (At.mono (Work_at2 hs_a (i := (s2 : Int)) (by first | omega | (have hx_ := hg; simp at hx_; omega)) (by first | omega | (have hx_ := hg; simp at hx_; omega))) (hC_a.at H))))) ?_
  refine d_qg (!(((a.getD s2 default).base) != ((b.getD s2 default).base))) rfl (gy_f rfl) (fun hg => (fun w' H => x_mv (v := v_b) rfl)) ?_
  refine d_qg (!(((a.getD s2 default).base) != ((b.getD s2 default).base))) rfl (gy_f rfl) (fun hg => (fun w' H => x_mv (v := I (s2 : Int)) rfl)) ?_
  refine d_qg (!(((a.getD s2 default).base) != ((b.getD s2 default).base))) rfl (gy_f rfl) (fun hg => (fun w' H => x_ix (a := v_b) (b := I (s2 : Int)) (v := vat v_b 3 (Int.toNat (s2 : Int))) (gd_of (c := !(((a.getD s2 default).base) != ((b.getD s2 default).base))) hg (v_b)) (gd_of (c := !(((a.getD s2 default).base) != ((b.getD s2 default).base))) hg (I (s2 : Int))) (Sl.ix (α := Work) T22.und T22.size hs_b (by first | omega | (have hx_ := hg; simp at hx_; omega)) (by first | omega | (have hx_ := hg; simp at hx_; omega))))) ?_
  refine d_qg (!(((a.getD s2 default).base) != ((b.getD s2 default).base))) rfl (gy_f rfl) (fun hg => (fun w' H => x_fa (a := vat v_b 3 (Int.toNat (s2 : Int))) (v := fat (vat v_b 3 (Int.toNat (s2 : Int))) 2) (gd_of (c := !(((a.getD s2 default).base) != ((b.getD s2 default).base))) hg (vat v_b 3 (Int.toNat (s2 : Int)))) (fa_pl Fd60_2 Sz3 (Sl.pl (i := (s2 : Int)) hs_b (by first | omega | (have hx_ := hg; simp at hx_; omega)) (by first | omega | (have hx_ := hg; simp at hx_; omega)))))) ?_
  refine d_qg (!(((a.getD s2 default).base) != ((b.getD s2 default).base))) rfl (gy_f rfl) (fun hg => (fun w' H => x_ld (p := fat (vat v_b 3 (Int.toNat (s2 : Int))) 2) (v := I ((b.getD s2 default).minutes)) (gd_of (c := !(((a.getD s2 default).base) != ((b.getD s2 default).base))) hg (fat (vat v_b 3 (Int.toNat (s2 : Int))) 2)) (ld_sc Sc3 (At.mono (Work_at2 hs_b (i := (s2 : Int)) (by first | omega | (have hx_ := hg; simp at hx_; omega)) (by first | omega | (have hx_ := hg; simp at hx_; omega))) (hC_b.at H))))) ?_
  refine d_qg (!(((a.getD s2 default).base) != ((b.getD s2 default).base))) rfl (gy_f rfl) (fun hg => (fun w' H => x_cmp (kd := .i64) (a := (a.getD s2 default).minutes) (b := (b.getD s2 default).minutes) (r := ((a.getD s2 default).minutes) != ((b.getD s2 default).minutes)) (gd_of (c := !(((a.getD s2 default).base) != ((b.getD s2 default).base))) hg (I ((a.getD s2 default).minutes))) (gd_of (c := !(((a.getD s2 default).base) != ((b.getD s2 default).base))) hg (I ((b.getD s2 default).minutes))) rfl)) ?_
  refine d_q rfl (fun w' H => x_por (b := ((a.getD s2 default).base) != ((b.getD s2 default).base)) (r := ((a.getD s2 default).minutes) != ((b.getD s2 default).minutes)) rfl rfl (fun hb => gd_of (c := !(((a.getD s2 default).base) != ((b.getD s2 default).base))) (by first | exact hb | (rw [hb]; rfl) | simp_all) (B (((a.getD s2 default).minutes) != ((b.getD s2 default).minutes))))) ?_
  refine d_q rfl (fun w' H => x_mv (v := B ((((a.getD s2 default).base) != ((b.getD s2 default).base)) || (((a.getD s2 default).minutes) != ((b.getD s2 default).minutes)))) rfl) ?_
  refine d_qg (!((((a.getD s2 default).base) != ((b.getD s2 default).base)) || (((a.getD s2 default).minutes) != ((b.getD s2 default).minutes)))) rfl (gy_f rfl) (fun hg => (fun w' H => x_mv (v := v_a) rfl)) ?_
  refine d_qg (!((((a.getD s2 default).base) != ((b.getD s2 default).base)) || (((a.getD s2 default).minutes) != ((b.getD s2 default).minutes)))) rfl (gy_f rfl) (fun hg => (fun w' H => x_mv (v := I (s2 : Int)) rfl)) ?_
  refine d_qg (!((((a.getD s2 default).base) != ((b.getD s2 default).base)) || (((a.getD s2 default).minutes) != ((b.getD s2 default).minutes)))) rfl (gy_f rfl) (fun hg => (fun w' H => x_ix (a := v_a) (b := I (s2 : Int)) (v := vat v_a 3 (Int.toNat (s2 : Int))) (gd_of (c := !((((a.getD s2 default).base) != ((b.getD s2 default).base)) || (((a.getD s2 default).minutes) != ((b.getD s2 default).minutes)))) hg (v_a)) (gd_of (c := !((((a.getD s2 default).base) != ((b.getD s2 default).base)) || (((a.getD s2 default).minutes) != ((b.getD s2 default).minutes)))) hg (I (s2 : Int))) (Sl.ix (α := Work) T22.und T22.size hs_a (by first | omega | (have hx_ := hg; simp at hx_; omega)) (by first | omega | (have hx_ := hg; simp at hx_; omega))))) ?_
  refine d_qg (!((((a.getD s2 default).base) != ((b.getD s2 default).base)) || (((a.getD s2 default).minutes) != ((b.getD s2 default).minutes)))) rfl (gy_f rfl) (fun hg => (fun w' H => x_fa (a := vat v_a 3 (Int.toNat (s2 : Int))) (v := fat (vat v_a 3 (Int.toNat (s2 : Int))) 0) (gd_of (c := !((((a.getD s2 default).base) != ((b.getD s2 default).base)) || (((a.getD s2 default).minutes) != ((b.getD s2 default).minutes)))) hg (vat v_a 3 (Int.toNat (s2 : Int)))) (fa_pl Fd60_0 Sz34 (Sl.pl (i := (s2 : Int)) hs_a (by first | omega | (have hx_ := hg; simp at hx_; omega)) (by first | omega | (have hx_ := hg; simp at hx_; omega)))))) ?_
  obtain ⟨u19z, ha_u19z, hs20z⟩ := gd_ex (c := !((((a.getD s2 default).base) != ((b.getD s2 default).base)) || (((a.getD s2 default).minutes) != ((b.getD s2 default).minutes)))) fun hg => Work_at0 hs_a (i := (s2 : Int)) (by first | omega | (have hx_ := hg; simp at hx_; omega)) (by first | omega | (have hx_ := hg; simp at hx_; omega))
  replace hs20z : (!((((a.getD s2 default).base) != ((b.getD s2 default).base)) || (((a.getD s2 default).minutes) != ((b.getD s2 default).minutes)))) = true → Sl _ u19z (a.getD s2 default).of := hs20z
  refine d_qg (!((((a.getD s2 default).base) != ((b.getD s2 default).base)) || (((a.getD s2 default).minutes) != ((b.getD s2 default).minutes)))) rfl (gy_f rfl) (fun hg => (fun w' H => x_ld (p := fat (vat v_a 3 (Int.toNat (s2 : Int))) 0) (v := u19z) (gd_of (c := !((((a.getD s2 default).base) != ((b.getD s2 default).base)) || (((a.getD s2 default).minutes) != ((b.getD s2 default).minutes)))) hg (fat (vat v_a 3 (Int.toNat (s2 : Int))) 0)) (ld_sc Sc34 (At.mono (ha_u19z hg) (hC_a.at H))))) ?_
  refine d_qg (!((((a.getD s2 default).base) != ((b.getD s2 default).base)) || (((a.getD s2 default).minutes) != ((b.getD s2 default).minutes)))) rfl (gy_f rfl) (fun hg => (fun w' H => x_mv (v := v_b) rfl)) ?_
  refine d_qg (!((((a.getD s2 default).base) != ((b.getD s2 default).base)) || (((a.getD s2 default).minutes) != ((b.getD s2 default).minutes)))) rfl (gy_f rfl) (fun hg => (fun w' H => x_mv (v := I (s2 : Int)) rfl)) ?_
  refine d_qg (!((((a.getD s2 default).base) != ((b.getD s2 default).base)) || (((a.getD s2 default).minutes) != ((b.getD s2 default).minutes)))) rfl (gy_f rfl) (fun hg => (fun w' H => x_ix (a := v_b) (b := I (s2 : Int)) (v := vat v_b 3 (Int.toNat (s2 : Int))) (gd_of (c := !((((a.getD s2 default).base) != ((b.getD s2 default).base)) || (((a.getD s2 default).minutes) != ((b.getD s2 default).minutes)))) hg (v_b)) (gd_of (c := !((((a.getD s2 default).base) != ((b.getD s2 default).base)) || (((a.getD s2 default).minutes) != ((b.getD s2 default).minutes)))) hg (I (s2 : Int))) (Sl.ix (α := Work) T22.und T22.size hs_b (by first | omega | (have hx_ := hg; simp at hx_; omega)) (by first | omega | (have hx_ := hg; simp at hx_; omega))))) ?_
  refine d_qg (!((((a.getD s2 default).base) != ((b.getD s2 default).base)) || (((a.getD s2 default).minutes) != ((b.getD s2 default).minutes)))) rfl (gy_f rfl) (fun hg => (fun w' H => x_fa (a := vat v_b 3 (Int.toNat (s2 : Int))) (v := fat (vat v_b 3 (Int.toNat (s2 : Int))) 0) (gd_of (c := !((((a.getD s2 default).base) != ((b.getD s2 default).base)) || (((a.getD s2 default).minutes) != ((b.getD s2 default).minutes)))) hg (vat v_b 3 (Int.toNat (s2 : Int)))) (fa_pl Fd60_0 Sz34 (Sl.pl (i := (s2 : Int)) hs_b (by first | omega | (have hx_ := hg; simp at hx_; omega)) (by first | omega | (have hx_ := hg; simp at hx_; omega)))))) ?_
  obtain ⟨u21z, ha_u21z, hs22z⟩ := gd_ex (c := !((((a.getD s2 default).base) != ((b.getD s2 default).base)) || (((a.getD s2 default).minutes) != ((b.getD s2 default).minutes)))) fun hg => Work_at0 hs_b (i := (s2 : Int)) (by first | omega | (have hx_ := hg; simp at hx_; omega)) (by first | omega | (have hx_ := hg; simp at hx_; omega))
  replace hs22z : (!((((a.getD s2 default).base) != ((b.getD s2 default).base)) || (((a.getD s2 default).minutes) != ((b.getD s2 default).minutes)))) = true → Sl _ u21z (b.getD s2 default).of := hs22z
  refine d_qg (!((((a.getD s2 default).base) != ((b.getD s2 default).base)) || (((a.getD s2 default).minutes) != ((b.getD s2 default).minutes)))) rfl (gy_f rfl) (fun hg => (fun w' H => x_ld (p := fat (vat v_b 3 (Int.toNat (s2 : Int))) 0) (v := u21z) (gd_of (c := !((((a.getD s2 default).base) != ((b.getD s2 default).base)) || (((a.getD s2 default).minutes) != ((b.getD s2 default).minutes)))) hg (fat (vat v_b 3 (Int.toNat (s2 : Int))) 0)) (ld_sc Sc34 (At.mono (ha_u21z hg) (hC_b.at H))))) ?_
  refine d_l rfl ?_
  obtain ⟨s, hx23z, hM⟩ := M.e_bind hM
  replace hx23z := M.e_pure hx23z
  refine t_gcall (!((((a.getD s2 default).base) != ((b.getD s2 default).base)) || (((a.getD s2 default).minutes) != ((b.getD s2 default).minutes)))) (gy_f rfl) cf25 (B s) (fun _ => [u19z, u21z]) (fun hg => lst2 (gd_of (c := !((((a.getD s2 default).base) != ((b.getD s2 default).base)) || (((a.getD s2 default).minutes) != ((b.getD s2 default).minutes)))) hg (u19z)) (gd_of (c := !((((a.getD s2 default).base) != ((b.getD s2 default).base)) || (((a.getD s2 default).minutes) != ((b.getD s2 default).minutes)))) hg (u21z))) H (fun hg => Ret.mono (same_int _ ((hs20z hg).mono (hC_a.at H)) ((hs22z hg).mono (hC_b.at H))) fun v_ w_ ⟨hv_, hx_⟩ => ⟨hv_.trans (congrArg B hx23z), H.ext hx_⟩) ?_
  intro w24z H
  refine s_nil ⟨(H.pick [] (by decide) rfl), ?_⟩
  refine d_qg (!((((a.getD s2 default).base) != ((b.getD s2 default).base)) || (((a.getD s2 default).minutes) != ((b.getD s2 default).minutes)))) rfl (gy_f rfl) (fun hg => (fun w' H => x_not (b := s) (gd_of (c := !((((a.getD s2 default).base) != ((b.getD s2 default).base)) || (((a.getD s2 default).minutes) != ((b.getD s2 default).minutes)))) hg (B s)))) ?_
  refine d_q rfl (fun w' H => x_por (b := ((((a.getD s2 default).base) != ((b.getD s2 default).base)) || (((a.getD s2 default).minutes) != ((b.getD s2 default).minutes)))) (r := !s) rfl rfl (fun hb => gd_of (c := !((((a.getD s2 default).base) != ((b.getD s2 default).base)) || (((a.getD s2 default).minutes) != ((b.getD s2 default).minutes)))) (by first | exact hb | (rw [hb]; rfl) | simp_all) (B (!s)))) ?_
  refine d_nil ?_
  refine W.cond (((((a.getD s2 default).base) != ((b.getD s2 default).base)) || (((a.getD s2 default).minutes) != ((b.getD s2 default).minutes))) || (!s)) rfl (fun c25z => ?_) (fun c25z => ?_)
  ·replace hM := M.e_t hM c25z
   refine sQ rfl <| sA (B false) rfl <| s_nil ?_
   refine W.ret ?_
   have hX26z := M.e_inr hM hN14z
   subst hX26z
   replace hM := hk7z
   try dsimp only at hM
   have hr_ := M.e_pure hM
   exact ⟨_, resE_tmp rfl, ⟨false, hr_, rfl, H⟩⟩
  replace hM := M.e_f hM c25z
  refine W.skip <| W.region rfl <| sR (s2 : Int) 1 ((s2 : Int) + 1) rfl rfl rfl (by omega) <| sM (I ((s2 : Int) + 1)) rfl <| s_nil ?_
  exact ⟨m11z, lt12z, s2 + 1, _, upds_of _ _ ⟨rfl, rfl, rfl, rfl, trivial⟩, M.e_inl hM hN14z, H⟩
 replace hM := M.e_f hM c15z
 simp only [qz1, qz2, qz3, qz4, qz5, qz6, ne_eq, qz7] at c15z
 refine W.exit ?_
 have hX27z := M.e_inr hM hN14z
 subst hX27z
 replace hM := hk7z
 try dsimp only at hM
 refine sQ rfl <| sA (B true) rfl <| s_nil ?_
 refine W.ret ?_
 have hr_ := M.e_pure hM
 exact ⟨_, resE_tmp rfl, ⟨true, hr_, rfl, H⟩⟩

end Go.Proofs.Ytndobgodeicloaa
end
namespace Go.Proofs.Ytndobgodeicloaa
open Go Go.Nm
theorem works_ends {ws : List Work} (h : ws.length ≤ 1000) (ho : ∀ x ∈ ws, x.of.length ≤ 1000) : (m_nilometerlaw13_Works ws).Ends ws := by
  unfold m_nilometerlaw13_Works
  refine M.i_bind (a := (ws, ws)) ?_ M.i_pure
  have := M.i_for (body := m_nilometerlaw13_Works_b0 ws) (r := (ws, ws)) (fun i => (i, ws.take i)) ws.length (fun i hi => ?_) ?_
  · simpa using this
  · have hm := ho _ (getD_memN ws (by omega : (i : Int) < ws.length) default)
    simp only [m_nilometerlaw13_Works_b0]
    refine M.i_t (by simpa using hi) (M.grdD (by omega) (M.grdD (by omega) (M.grdD (by simp only [List.length_take, List.length_cons, List.length_nil]; omega) ?_)))
    rw [show (⟨(ws.getD i default).of, (ws.getD i default).base, (ws.getD i default).minutes⟩ : Work) = ws.getD i default from rfl, take_succ_D ws i hi]
    exact M.i_pure
  · simp only [m_nilometerlaw13_Works_b0]
    rw [List.take_length]
    exact M.i_f (by simp) M.i_pure
theorem same_ends (ws : List Work) : (m_nilometerlaw13_same ws ws).Ends true := by
  unfold m_nilometerlaw13_same
  refine M.i_f (by simp) (M.i_bind (M.i_scan ws.length (fun _ => false) (fun i hi _ => ?_) (fun _ => ?_)) ?_)
  · simp only [m_nilometerlaw13_same_b0]
    refine M.i_t (by simpa using hi) (M.grdD (by omega) (M.grdD (by omega) (M.i_bind M.i_pure (M.i_f (by simp) M.i_pure))))
  · simp only [m_nilometerlaw13_same_b0]
    exact M.i_f (by simp) M.i_pure
  · have : (List.range ws.length).any (fun _ => false) = false := by simp
    rw [this]
    exact M.i_pure
end Go.Proofs.Ytndobgodeicloaa
namespace Go.Proofs.Ytndobgodeicloaa
open Go Go.Nm
variable {ws : List Work}
theorem behind_a (hR : rightE ws = 0) {T0 : List (List Bool)} {pr : Nat → Nat → Nat → Prop} {b k : Nat} (hb : b < ws.length) (hk : k < (ws.getD b default).of.length) {T : List (List Bool)} {ch : Bool} (hI : BInv ws T0 pr T ch) :
    ∃ r, (M.iter (m_nilometerref13_behind_b12 ws b k) (T, ch, 0)).Ends r ∧ ∃ T' ch', r = (T', ch', T') ∧ BInv ws T0 (fun b' k' a' => pr b' k' a' ∨ (b' = b ∧ k' = k ∧ a' < ws.length)) T' ch' := by
  have hx := right_of hR hb _ (getD_memN (ws.getD b default).of (by omega : (k : Int) < _) 0)
  have hxm : ((Int.toNat (((ws.getD b default).of).getD k 0) : Nat) : Int) ∈ (ws.getD b default).of := by
    rw [Int.toNat_of_nonneg hx.1]; exact getD_memN (ws.getD b default).of (by omega : (k : Int) < _) 0
  refine M.i_loopQ _ (fun m s => ∃ a, a ≤ ws.length ∧ m = ws.length - a ∧ s.2.2 = a ∧ BInv ws T0 (fun b' k' a' => pr b' k' a' ∨ (b' = b ∧ k' = k ∧ a' < a)) s.1 s.2.1) ?_ ws.length (T, ch, 0) ⟨0, Nat.zero_le _, rfl, rfl, hI.imp fun b' k' a' h => h.elim id fun h => by omega⟩
  rintro m ⟨T1, c1, a1⟩ ⟨a, hle, rfl, rfl, h⟩
  dsimp only at h hle ⊢
  have hl := h.sq.len
  by_cases ha : a1 < ws.length
  · left
    have hr := h.sq.row a1 ha
    simp only [m_nilometerref13_behind_b12]
    cases hc : ((((a1 : Int) == (((ws.getD b default).of).getD k 0)) || ((T1.getD a1 ([])).getD (Int.toNat (((ws.getD b default).of).getD k 0)) false)) && (!((T1.getD a1 ([])).getD b false))) with
    | true =>
      refine ⟨(T1.set a1 ((T1.getD a1 []).set b true), true, a1 + 1), ws.length - (a1 + 1), by omega, ?_, a1 + 1, ha, rfl, rfl, ?_⟩
      · refine M.i_t (by simpa using ha) (M.i_grd (gOr (by omega)) (M.i_grd (gOr2 hx.1 (by omega)) (M.i_grd (gOr (by omega)) (M.i_grd (gOr (by omega)) (M.i_t rfl (M.grdD (by omega) (M.grdD (by omega) M.i_pure)))))))
      · rw [Bool.and_eq_true] at hc
        have hf : (T1.getD a1 []).getD b false = false := by simpa using hc.2
        refine ⟨h.sq.put ha, fun a' b' ht => ?_, fun _ => ?_, fun e => by cases e⟩
        · rw [Tb_put h.sq ha hb] at ht
          split at ht
          · rename_i e
            rw [e.1, e.2]
            rcases (Bool.or_eq_true _ _).mp hc.1 with h1 | h1
            · exact .one (by rw [show (a1 : Int) = ((ws.getD b default).of).getD k 0 from by simpa using h1]; exact getD_memN (ws.getD b default).of (by omega : (k : Int) < _) 0) hb
            · exact .more (h.sound _ _ h1) hxm hb
          · exact h.sound _ _ ht
        · have h1 := fT_set T1 a1 ((T1.getD a1 []).set b true) (by omega)
          have h2 := fc_set (T1.getD a1 []) b (by omega) hf
          dsimp only
          cases c1 with
          | true => have := h.yes rfl; omega
          | false => have := (h.no rfl).1; rw [← this]; omega
    | false =>
      refine ⟨(T1, c1, a1 + 1), ws.length - (a1 + 1), by omega, ?_, a1 + 1, ha, rfl, rfl, ?_⟩
      · refine M.i_t (by simpa using ha) (M.i_grd (gOr (by omega)) (M.i_grd (gOr2 hx.1 (by omega)) (M.i_grd (gOr (by omega)) (M.i_grd (gOr (by omega)) (M.i_f rfl M.i_pure)))))
      · refine ⟨h.sq, h.sound, h.yes, fun e => ⟨(h.no e).1, fun b' k' a' hp => ?_⟩⟩
        rcases hp with hp | ⟨rfl, rfl, hp⟩
        · exact (h.no e).2 _ _ _ (.inl hp)
        · by_cases e2 : a' = a1
          · subst e2
            intro hcl
            unfold Tb at hcl ⊢
            rw [hcl, Bool.true_and] at hc
            simpa using hc
          · exact (h.no e).2 _ _ _ (.inr ⟨rfl, rfl, by omega⟩)
  · right
    obtain rfl : a1 = ws.length := by omega
    refine ⟨(T1, c1, T1), ?_, T1, c1, rfl, h⟩
    simp only [m_nilometerref13_behind_b12]
    exact M.i_f (by simp) M.i_pure
theorem behind_k (hR : rightE ws = 0) {T0 : List (List Bool)} {pr : Nat → Nat → Nat → Prop} {b : Nat} (hb : b < ws.length) {T : List (List Bool)} {ch : Bool} (hI : BInv ws T0 pr T ch) :
    ∃ r, (M.iter (m_nilometerref13_behind_b13 ws b) (T, ch, 0)).Ends r ∧ ∃ T' ch', r = (T', ch', T') ∧ BInv ws T0 (fun b' k' a' => pr b' k' a' ∨ (b' = b ∧ k' < (ws.getD b default).of.length ∧ a' < ws.length)) T' ch' := by
  refine M.i_loopQ _ (fun m s => ∃ k, k ≤ (ws.getD b default).of.length ∧ m = (ws.getD b default).of.length - k ∧ s.2.2 = k ∧ BInv ws T0 (fun b' k' a' => pr b' k' a' ∨ (b' = b ∧ k' < k ∧ a' < ws.length)) s.1 s.2.1) ?_ (ws.getD b default).of.length (T, ch, 0) ⟨0, Nat.zero_le _, rfl, rfl, hI.imp fun b' k' a' h => h.elim id fun h => by omega⟩
  rintro m ⟨T1, c1, k1⟩ ⟨k, hle, rfl, rfl, h⟩
  dsimp only at h hle ⊢
  simp only [m_nilometerref13_behind_b13]
  by_cases hk : k1 < (ws.getD b default).of.length
  · left
    obtain ⟨r, hr, T', ch', rfl, h'⟩ := behind_a hR hb hk h
    refine ⟨(T', ch', k1 + 1), _, Nat.sub_succ_lt_self _ _ hk, M.grdD (by omega) (M.i_t (by simpa using hk) (M.grdD (by omega) (M.i_bind hr M.i_pure))), k1 + 1, hk, rfl, rfl, h'.imp fun b' k' a' hp => ?_⟩
    rcases hp with hp | ⟨rfl, h2, h3⟩
    · exact .inl (.inl hp)
    · by_cases e : k' = k1
      · exact .inr ⟨rfl, e, h3⟩
      · exact .inl (.inr ⟨rfl, by omega, h3⟩)
  · right
    obtain rfl : k1 = (ws.getD b default).of.length := by omega
    exact ⟨(T1, c1, T1), M.grdD (by omega) (M.i_f (by simp) M.i_pure), T1, c1, rfl, h⟩
theorem behind_b (hR : rightE ws = 0) {T0 : List (List Bool)} {T : List (List Bool)} {ch : Bool} (hI : BInv ws T0 (fun _ _ _ => False) T ch) :
    ∃ r, (M.iter (m_nilometerref13_behind_b14 ws) (T, ch, 0)).Ends r ∧ ∃ T' ch', r = (T', ch', T') ∧ BInv ws T0 (fun b' k' a' => b' < ws.length ∧ k' < (ws.getD b' default).of.length ∧ a' < ws.length) T' ch' := by
  refine M.i_loopQ _ (fun m s => ∃ b, b ≤ ws.length ∧ m = ws.length - b ∧ s.2.2 = b ∧ BInv ws T0 (fun b' k' a' => b' < b ∧ k' < (ws.getD b' default).of.length ∧ a' < ws.length) s.1 s.2.1) ?_ ws.length (T, ch, 0) ⟨0, Nat.zero_le _, rfl, rfl, hI.imp fun b' k' a' h => by omega⟩
  rintro m ⟨T1, c1, b1⟩ ⟨b, hle, rfl, rfl, h⟩
  dsimp only at h hle ⊢
  simp only [m_nilometerref13_behind_b14]
  by_cases hb : b1 < ws.length
  · left
    obtain ⟨r, hr, T', ch', rfl, h'⟩ := behind_k hR hb h
    refine ⟨(T', ch', b1 + 1), _, Nat.sub_succ_lt_self _ _ hb, M.i_t (by simpa using hb) (M.i_bind hr M.i_pure), b1 + 1, hb, rfl, rfl, h'.imp fun b' k' a' hp => ?_⟩
    by_cases e : b' = b1
    · subst e; exact .inr ⟨rfl, hp.2⟩
    · exact .inl ⟨by omega, hp.2⟩
  · right
    obtain rfl : b1 = ws.length := by omega
    exact ⟨(T1, c1, T1), M.i_f (by simp) M.i_pure, T1, c1, rfl, h⟩
/-- The table that is done. -/
structure Done (ws : List Work) (T : List (List Bool)) : Prop where
  sq : Sq ws.length T
  sound : ∀ a b, Tb T a b = true → Wy ws a b
  cl : ∀ b k a, b < ws.length ∧ k < (ws.getD b default).of.length ∧ a < ws.length → ClAt ws T b k a
theorem behind_ends (hR : rightE ws = 0) : ∃ T, (m_nilometerref13_behind ws).Ends T ∧ Done ws T := by
  have hlen := right_len hR
  have h0 : (M.iter (m_nilometerref13_behind_b0 ws) (0, [])).Ends (List.replicate ws.length (List.replicate ws.length false), List.replicate ws.length (List.replicate ws.length false)) := by
    refine M.i_for (fun i => (i, List.replicate i (List.replicate ws.length false))) ws.length (fun i hi => ?_) ?_
    · simp only [m_nilometerref13_behind_b0]
      refine M.i_t (by simpa using hi) (M.i_grd (gA3 (by omega) (by omega) (by omega)) (M.grdD (by simp only [List.length_replicate]; omega) ?_))
      rw [← List.replicate_succ']
      exact M.i_pure
    · simp only [m_nilometerref13_behind_b0]
      exact M.i_f (by simp) M.i_pure
  have hz : ∀ a b, Tb (List.replicate ws.length (List.replicate ws.length false)) a b = false := by
    intro a b
    unfold Tb
    simp only [List.getD_eq_getElem?_getD, List.getElem?_replicate]
    split
    · simp only [Option.getD_some, List.getElem?_replicate]; split <;> rfl
    · rfl
  have hs : Sq ws.length (List.replicate ws.length (List.replicate ws.length false)) := ⟨by simp, fun a ha => by simp [List.getD_eq_getElem?_getD, List.getElem?_replicate, ha]⟩
  obtain ⟨r, hr, T, rfl, hT⟩ := M.i_loopQ (body := m_nilometerref13_behind_b15 ws) (fun r => ∃ T, r = (T, T) ∧ Done ws T)
    (fun m s => Sq ws.length s.1 ∧ (∀ a b, Tb s.1 a b = true → Wy ws a b) ∧ m = fT s.1 + (if s.2 then 1 else 0) ∧ (s.2 = false → Done ws s.1))
    (by
      rintro m ⟨T1, c1⟩ ⟨h1, h2, rfl, h4⟩
      dsimp only at h1 h2 h4 ⊢
      simp only [m_nilometerref13_behind_b15]
      cases c1 with
      | false => exact .inr ⟨(T1, T1), M.i_f rfl M.i_pure, T1, rfl, h4 rfl⟩
      | true =>
        left
        obtain ⟨r, hr, T', ch', rfl, h'⟩ := behind_b hR (T0 := T1) (T := T1) (ch := false) ⟨h1, h2, fun e => (by cases e), fun _ => ⟨rfl, fun _ _ _ h => h.elim⟩⟩
        refine ⟨(T', ch'), _, ?_, M.i_t rfl (M.i_bind hr M.i_pure), h'.sq, h'.sound, rfl, fun e => ⟨h'.sq, h'.sound, (h'.no e).2⟩⟩
        cases ch' with
        | true => have := h'.yes rfl; simp only [if_true]; omega
        | false => rw [(h'.no rfl).1]; simp)
    _ (List.replicate ws.length (List.replicate ws.length false), true) ⟨hs, fun a b h => (by rw [hz] at h; cases h), rfl, fun e => (by cases e)⟩
  exact ⟨T, M.i_bind h0 (M.i_bind hr M.i_pure), hT⟩
theorem Done.way {T : List (List Bool)} (h : Done ws T) (hR : rightE ws = 0) {a b : Nat} (w : Wy ws a b) : Tb T a b = true := by
  induction w with
  | @one b ha hb =>
    obtain ⟨k, hk, e⟩ := List.getElem_of_mem ha
    have e' : ((ws.getD b default).of).getD k 0 = (a : Int) := (getD_el _ hk _).trans e
    have := right_of hR hb _ ha
    exact h.cl b k a ⟨hb, hk, by omega⟩ (by rw [e']; simp)
  | @more m b w hm hb ih =>
    obtain ⟨k, hk, e⟩ := List.getElem_of_mem hm
    have e' : ((ws.getD b default).of).getD k 0 = (m : Int) := (getD_el _ hk _).trans e
    have ha : a < ws.length := by
      cases hlt : decide (a < ws.length) with
      | true => simpa using hlt
      | false =>
        exfalso
        have : Tb T a m = false := by
          unfold Tb
          rw [List.getD_eq_getElem?_getD (l := T), List.getElem?_eq_none (by rw [h.sq.len]; simpa using hlt)]
          simp
        rw [ih] at this
        cases this
    exact h.cl b k a ⟨hb, hk, ha⟩ (by rw [e', show Int.toNat (m : Int) = m from rfl, ih]; simp)
end Go.Proofs.Ytndobgodeicloaa
namespace Go.Proofs.Ytndobgodeicloaa
open Go Go.Nm
variable {ws : List Work}
theorem check_ends (ws : List Work) : (m_nilometerref13_Check ws).Ends (openedE ws) := by
  unfold m_nilometerref13_Check
  by_cases hR : rightE ws = 0
  · obtain ⟨T, hT, hD⟩ := behind_ends hR
    refine M.i_f (by simp [hR]) (M.i_bind hT (M.i_bind (M.i_scan ws.length (fun i => Tb T i i) (fun i hi _ => ?_) (fun _ => ?_)) ?_))
    · simp only [m_nilometerref13_Check_b0]
      have := hD.sq.len
      have := hD.sq.row i hi
      refine M.i_t (by simpa using hi) (M.grdD (by omega) (M.grdD (by omega) ?_))
      cases hc : Tb T i i with
      | true => exact M.i_t hc M.i_pure
      | false => exact M.i_f hc M.i_pure
    · simp only [m_nilometerref13_Check_b0]
      exact M.i_f (by simp) M.i_pure
    · by_cases hf : (orderP ws).length < ws.length
      · obtain ⟨i, hi, hw⟩ := order_circle hR hf
        have : (List.range ws.length).any (fun i => Tb T i i) = true := List.any_eq_true.2 ⟨i, List.mem_range.2 hi, hD.way hR hw⟩
        rw [this, opened_circle hR (by omega)]
        exact M.i_pure
      · have h0 := opened_ok hR (by omega : ¬ ((orderP ws).length : Int) < ws.length)
        have : (List.range ws.length).any (fun i => Tb T i i) = false := List.any_eq_false.2 fun i _ hc => by
          have := wy_pos h0 (hD.sound i i hc)
          omega
        rw [this, h0]
        exact M.i_pure
  · rw [opened_wrong hR]
    exact M.i_t (by simpa using hR) M.i_pure
end Go.Proofs.Ytndobgodeicloaa
namespace Go.Proofs.Ytndobgodeicloaa
open Go Go.Nm
variable {ws : List Work}
theorem order_k (l : List Int) {i : Nat} (hi : i < ws.length) : (M.iter (m_nilometerref13_Order_b7 ws l (i : Int)) (!(l.contains (i : Int)), 0)).Ends (readyAt ws l i) := by
  have := M.i_for (body := m_nilometerref13_Order_b7 ws l (i : Int)) (r := readyAt ws l i) (fun k => (!(l.contains (i : Int)) && ((ws.getD i default).of.take k).all (fun x => l.contains x), k)) (ws.getD i default).of.length (fun k hk => ?_) ?_
  · simpa using this
  · simp only [m_nilometerref13_Order_b7, Int.toNat_natCast]
    refine M.i_grd (gA2 (by omega) (by omega)) (M.i_t (by simpa using hk) (M.i_grd (gOr (by omega)) ?_))
    rw [all_take_succ _ _ hk 0, ← Bool.and_assoc]
    exact M.i_pure
  · simp only [m_nilometerref13_Order_b7, Int.toNat_natCast, List.take_length]
    exact M.i_grd (gA2 (by omega) (by omega)) (M.i_f (by simp) M.i_pure)
theorem order_i (hR : rightE ws = 0) (l : List Int) {j : Nat} (hj : nextR ws l = some j) : (M.iter (m_nilometerref13_Order_b8 ws l) (-1, (ws.length : Int) - 1)).Ends (j : Int) := by
  have hlen := right_len hR
  obtain ⟨h1, h2, h3⟩ := nextR_spec hj
  refine M.i_loop (fun m s => ∃ i : Nat, i ≤ ws.length ∧ m = i ∧ s.2 = (i : Int) - 1 ∧ (i ≤ j → s.1 = (j : Int))) ?_ ws.length (-1, (ws.length : Int) - 1) ⟨ws.length, Nat.le_refl _, rfl, rfl, fun h => by omega⟩
  rintro m ⟨nx, i'⟩ ⟨i, hle, rfl, rfl, hn⟩
  dsimp only at hn ⊢
  simp only [m_nilometerref13_Order_b8]
  cases m with
  | zero =>
    right
    rw [hn (Nat.zero_le _)]
    exact M.i_f (by simp) M.i_pure
  | succ i =>
    left
    have hk := order_k (ws := ws) l (i := i) (by omega)
    have e : ((i + 1 : Nat) : Int) - 1 = (i : Int) := by omega
    rw [e]
    cases hr : readyAt ws l i with
    | true =>
      rw [hr] at hk
      refine ⟨((i : Int), (i : Int) - 1), i, by omega, M.i_t (by simp) (M.i_bind hk (M.i_t rfl (M.i_grd (gA2 (by omega) (by omega)) M.i_pure))), i, by omega, rfl, rfl, fun h => ?_⟩
      by_cases e2 : i = j
      · rw [e2]
      · have := h3 i (by omega); rw [hr] at this; cases this
    | false =>
      rw [hr] at hk
      refine ⟨(nx, (i : Int) - 1), i, by omega, M.i_t (by simp) (M.i_bind hk (M.i_f rfl (M.i_grd (gA2 (by omega) (by omega)) M.i_pure))), i, by omega, rfl, rfl, fun h => ?_⟩
      by_cases e2 : i = j
      · subst e2; rw [hr] at h2; cases h2
      · exact hn (by omega)
theorem order_ends (ws : List Work) : (m_nilometerref13_Order ws).Ends (if openedE ws = 0 then (orderP ws, 0) else ([], openedE ws)) := by
  unfold m_nilometerref13_Order
  refine M.i_bind (check_ends ws) ?_
  by_cases h : openedE ws = 0
  · rw [if_pos h]
    have hR := opened_right h
    have hlen := right_len hR
    have hf := order_full h
    refine M.i_f (by simp [h]) (M.i_bind (a := (orderP ws, orderP ws)) ?_ M.i_pure)
    have := M.i_for (body := m_nilometerref13_Order_b9 ws) (r := (orderP ws, orderP ws)) (fun j => (orderP ws).take j) ws.length (fun j hj => ?_) ?_
    · simpa using this
    · obtain ⟨i, hi, e⟩ := order_next (ws := ws) (j := j) (by omega)
      have hl : ((orderP ws).take j).length = j := by rw [List.length_take]; omega
      simp only [m_nilometerref13_Order_b9]
      refine M.i_t (by rw [hl]; simpa using hj) (M.i_bind (order_i hR _ hi) (M.grdD (by rw [hl]; simp only [List.length_cons, List.length_nil]; omega) ?_))
      rw [take_succ_getD (orderP ws) (by omega : j < _) 0, e]
      exact M.i_pure
    · simp only [m_nilometerref13_Order_b9]
      rw [← hf, List.take_length, hf]
      exact M.i_f (by simp [hf]) M.i_pure
  · rw [if_neg h]
    exact M.i_t (by simpa using h) M.i_pure
end Go.Proofs.Ytndobgodeicloaa
section
set_option maxRecDepth 100000
set_option maxHeartbeats 16000000
namespace Go.Proofs.Ytndobgodeicloaa
open Go Go.Nm
def m_nilometerref13_leads_b0 (w_ : List Work) (l : List Int) : Nat → M (Nat ⊕ (Unit ⊕ Unit)) := fun i =>
  M.grd (decide ((-9223372036854775808 : Int) ≤ ((i : Int) + 1)) && decide (((i : Int) + 1) ≤ (9223372036854775807 : Int))) <|
  bif decide (((i : Int) + 1) < (l.length : Int)) then (
  M.grd (decide ((0 : Int) ≤ ((i : Int) + 1)) && decide (((i : Int) + 1) < (l.length : Int))) <|
  M.grd (decide ((0 : Int) ≤ (l.getD (Int.toNat ((i : Int) + 1)) 0)) && decide ((l.getD (Int.toNat ((i : Int) + 1)) 0) < (w_.length : Int))) <|
  M.grd (decide ((i : Int) < (l.length : Int))) <|
  bif !(((w_.getD (Int.toNat (l.getD (Int.toNat ((i : Int) + 1)) 0)) default).of).contains (l.getD i 0)) then (
  M.pure (.inr (.inl ())))
  else (
  M.pure (.inl (i + 1))))
  else (
  M.pure (.inr (.inr ())))
def m_nilometerref13_leads (w_ : List Work) (l : List Int) : M Bool :=
  M.bind (M.iter (m_nilometerref13_leads_b0 w_ l) 0) fun x_ => match x_ with
  | (.inl (_ : Unit)) => (
  M.pure false)
  | (.inr (_ : Unit)) => (
  M.pure (decide (0 < (l.length : Int))))
theorem nilometerref13_leads_ok {R : List Chunk} {C_w_ : Cells} {v_w_ : Value} {C_l : Cells} {v_l : Value} (w_ : List Work) (l : List Int) (hC_w_ : Reads R C_w_) (hs_w_ : Sl C_w_ v_w_ w_) (hC_l : Reads R C_l) (hs_l : Sl C_l v_l l) {r : Bool} (hM : (m_nilometerref13_leads w_ l).Ends r) (w : World) (H : St w w [] R) : Ret Try.prog 105 #[v_w_, v_l] w fun v w' => ∃ (y0 : Bool), y0 = r ∧ v = B y0 ∧ St w w' [] R := by
 refine ret_of_W Try.func105 rfl rfl rfl ?_
 refine sQ rfl <| sA (B false) rfl <| s_nil <| W.seq <| sQ rfl <| sA (I 0) rfl <| s_nil <| W.block ?_
 obtain ⟨ex1z, hi2z, hk3z⟩ := M.e_bind hM
 obtain ⟨m0_, hi2z⟩ := M.e_iter hi2z
 refine W.loop (fun m σ W => ∃ (i : Nat) (ρ : Env), σ = upds ρ [(0, v_w_), (1, v_l), (5, I (i : Int))] ∧ M.iterN (m_nilometerref13_leads_b0 w_ l) m i = some ex1z ∧ St w W [] R) ?_ ?_
 ·exact ⟨_, 0, _, upds_of _ _ ⟨rfl, rfl, rfl, trivial⟩, hi2z, H⟩
 rintro m6z σ w4z ⟨i, ρ, rfl, hI5z, H⟩
 obtain ⟨m7z, lt8z, x9z, hM, hN10z⟩ := M.e_iterN hI5z
 simp only [m_nilometerref13_leads_b0] at hM
 clear hI5z
 refine W.seq <| sQ rfl <| sM (I (i : Int)) rfl ?_
 obtain ⟨sd11z, hM⟩ := M.e_gd hM
 refine sR (i : Int) 1 ((i : Int) + 1) rfl rfl rfl (by omega) <| sM v_l rfl ?_
 have hl12z := (hs_l).len_le
 refine s_val (x_lenS T34.und rfl hs_l) <| sC ((i : Int) + 1) (l.length : Int) (decide (((i : Int) + 1) < (l.length : Int))) rfl rfl rfl <| s_nil ?_
 refine W.cond (decide (((i : Int) + 1) < (l.length : Int))) rfl (fun c13z => ?_) (fun c13z => ?_)
 ·replace hM := M.e_t hM c13z
  simp only [qz1, qz2, qz3, qz4, qz5, qz6, ne_eq, qz7] at c13z
  refine W.skip <| W.seq <| W.block <| W.seq ?_
  refine W.draw (fun W => St w W [] R) [(0, true), (1, true), (2, true), (3, true), (4, true), (5, true), (6, true), (7, true), (8, true), (9, true), (10, true), (11, true), (12, true), (13, false), (14, true)] mixed (by decide +kernel) rfl ?_
  intro w14z hx_
  replace H : St w w14z [] R := H.ext hx_
  clear hx_
  refine ⟨(H.pick [] (by decide) rfl), ?_⟩
  refine d_q rfl (fun w' H => x_mv (v := v_w_) rfl) ?_
  refine d_q rfl (fun w' H => x_mv (v := v_l) rfl) ?_
  refine d_q rfl (fun w' H => x_mv (v := I (i : Int)) rfl) ?_
  refine d_q rfl (fun w' H => x_ari (a := (i : Int)) (b := 1) (r := (i : Int) + 1) rfl rfl rfl (by omega)) ?_
  obtain ⟨sd15z, hM⟩ := M.e_gd hM
  refine d_q rfl (fun w' H => x_ix (a := v_l) (b := I ((i : Int) + 1)) (v := vat v_l 1 (Int.toNat ((i : Int) + 1))) rfl rfl (Sl.ix (α := Int) T34.und T34.size hs_l (by omega) (by omega))) ?_
  refine d_q rfl (fun w' H => x_ld (p := vat v_l 1 (Int.toNat ((i : Int) + 1))) (v := I (l.getD (Int.toNat ((i : Int) + 1)) 0)) rfl (ld_sc Sc3 (At.mono (Int_at hs_l (i := (i : Int) + 1) (by omega) (by omega)) (hC_l.at H)))) ?_
  obtain ⟨sd16z, hM⟩ := M.e_gd hM
  refine d_q rfl (fun w' H => x_ix (a := v_w_) (b := I (l.getD (Int.toNat ((i : Int) + 1)) 0)) (v := vat v_w_ 3 (Int.toNat (l.getD (Int.toNat ((i : Int) + 1)) 0))) rfl rfl (Sl.ix (α := Work) T39.und T39.size hs_w_ (by omega) (by omega))) ?_
  refine d_q rfl (fun w' H => x_fa (a := vat v_w_ 3 (Int.toNat (l.getD (Int.toNat ((i : Int) + 1)) 0))) (v := fat (vat v_w_ 3 (Int.toNat (l.getD (Int.toNat ((i : Int) + 1)) 0))) 0) rfl (fa_pl Fd138_0 Sz34 (Sl.pl (i := l.getD (Int.toNat ((i : Int) + 1)) 0) hs_w_ (by omega) (by omega)))) ?_
  obtain ⟨u17z, ha_u17z, hs18z⟩ := Work_at0 hs_w_ (i := l.getD (Int.toNat ((i : Int) + 1)) 0) (by omega) (by omega)
  replace hs18z : Sl _ u17z (w_.getD (Int.toNat (l.getD (Int.toNat ((i : Int) + 1)) 0)) default).of := hs18z
  have hl_hs18z := hs18z.len_le
  refine d_q rfl (fun w' H => x_ld (p := fat (vat v_w_ 3 (Int.toNat (l.getD (Int.toNat ((i : Int) + 1)) 0))) 0) (v := u17z) rfl (ld_sc Sc34 (At.mono (ha_u17z) (hC_w_.at H)))) ?_
  refine d_q rfl (fun w' H => x_mv (v := v_l) rfl) ?_
  refine d_q rfl (fun w' H => x_mv (v := I (i : Int)) rfl) ?_
  obtain ⟨sd19z, hM⟩ := M.e_gd hM
  refine d_q rfl (fun w' H => x_ix (a := v_l) (b := I (i : Int)) (v := vat v_l 1 (Int.toNat (i : Int))) rfl rfl (Sl.ix (α := Int) T34.und T34.size hs_l (by omega) (by omega))) ?_
  refine d_q rfl (fun w' H => x_ld (p := vat v_l 1 (Int.toNat (i : Int))) (v := I (l.getD i 0)) rfl (ld_sc Sc3 (At.mono (Int_at hs_l (i := (i : Int)) (by omega) (by omega)) (hC_l.at H)))) ?_
  refine d_l rfl ?_
  refine s_call cf95 [u17z, I (l.getD i 0)] rfl (has_any (l.getD i 0) _ (hs18z.mono (hC_w_.at H))) ?_
  rintro _ w20z ⟨rfl, hx_⟩
  replace H : St w w20z [] R := H.ext hx_
  clear hx_
  refine s_nil ⟨(H.pick [] (by decide) rfl), ?_⟩
  refine d_q rfl (fun w' H => x_not (b := ((w_.getD (Int.toNat (l.getD (Int.toNat ((i : Int) + 1)) 0)) default).of).contains (l.getD i 0)) rfl) ?_
  refine d_nil ?_
  refine W.cond (!(((w_.getD (Int.toNat (l.getD (Int.toNat ((i : Int) + 1)) 0)) default).of).contains (l.getD i 0))) rfl (fun c21z => ?_) (fun c21z => ?_)
  ·replace hM := M.e_t hM c21z
   refine sQ rfl <| sA (B false) rfl <| s_nil ?_
   refine W.ret ?_
   have hX22z := M.e_inr hM hN10z
   subst hX22z
   replace hM := hk3z
   try dsimp only at hM
   have hr_ := M.e_pure hM
   exact ⟨_, resE_tmp rfl, ⟨false, hr_, rfl, H⟩⟩
  replace hM := M.e_f hM c21z
  refine W.skip <| W.region rfl <| sM (I (i : Int)) rfl <| sR (i : Int) 1 ((i : Int) + 1) rfl rfl rfl (by omega) <| sA (I ((i : Int) + 1)) rfl <| s_nil ?_
  exact ⟨m7z, lt8z, i + 1, _, upds_of _ _ ⟨rfl, rfl, rfl, trivial⟩, M.e_inl hM hN10z, H⟩
 replace hM := M.e_f hM c13z
 simp only [qz1, qz2, qz3, qz4, qz5, qz6, ne_eq, qz7] at c13z
 refine W.exit ?_
 have hX23z := M.e_inr hM hN10z
 subst hX23z
 replace hM := hk3z
 try dsimp only at hM
 refine sQ rfl <| sM v_l rfl ?_
 have hl24z := (hs_l).len_le
 refine s_val (x_lenS T34.und rfl hs_l) <| sC (l.length : Int) 0 (decide (0 < (l.length : Int))) rfl rfl rfl <| sA (B (decide (0 < (l.length : Int)))) rfl <| s_nil ?_
 refine W.ret ?_
 have hr_ := M.e_pure hM
 exact ⟨_, resE_tmp rfl, ⟨(decide (0 < (l.length : Int))), hr_, rfl, H⟩⟩

def m_nilometerref13_Leads_b0 (w_ : List Work) (l : List Int) : Nat → M (Nat ⊕ (Unit ⊕ Unit)) := fun i =>
  bif decide ((i : Int) < (l.length : Int)) then (
  M.grd (decide ((i : Int) < (l.length : Int))) <|
  bif outB (l.getD i 0) 0 ((w_.length : Int) - 1) then (
  M.pure (.inr (.inl ())))
  else (
  M.pure (.inl (i + 1))))
  else (
  M.pure (.inr (.inr ())))
def m_nilometerref13_Leads (w_ : List Work) (l : List Int) : M (Bool × Int) :=
  M.bind (m_nilometerref13_Check w_) fun r2 =>
  bif r2 != 0 then (
  M.pure (false, r2))
  else (
  M.bind (M.iter (m_nilometerref13_Leads_b0 w_ l) 0) fun x_ => match x_ with
  | (.inl (_ : Unit)) => (
  M.pure (false, 2))
  | (.inr (_ : Unit)) => (
  M.bind (m_nilometerref13_leads w_ l) fun r3 =>
  M.pure (r3, 0)))
theorem nilometerref13_Leads_ok {R : List Chunk} {C_w_ : Cells} {v_w_ : Value} {C_l : Cells} {v_l : Value} (w_ : List Work) (l : List Int) (hC_w_ : Reads R C_w_) (hs_w_ : Sl C_w_ v_w_ w_) (hC_l : Reads R C_l) (hs_l : Sl C_l v_l l) {r : (Bool × Int)} (hM : (m_nilometerref13_Leads w_ l).Ends r) (w : World) (H : St w w [] R) : Ret Try.prog 39 #[v_w_, v_l] w fun v w' => ∃ (y0 : Bool) (y1 : Int), (y0, y1) = r ∧ v = .tuple #[B y0, I y1] ∧ St w w' [] R := by
 refine ret_of_W Try.func39 rfl rfl rfl ?_
 refine sQ rfl <| sA (B false) rfl <| sA (I 0) rfl <| s_nil <| W.seq <| sQ rfl <| sM v_w_ rfl ?_
 obtain ⟨r2z, hx1z, hM⟩ := M.e_bind hM
 refine s_call cf71 [v_w_] rfl (nilometerref13_Check_ok w_ (hC_w_.app _) hs_w_ hx1z _ (St.give (T := []) H rfl)) ?_
 rintro vq w3z ⟨r2, hr4z, hvq, H2_⟩
 subst hr4z
 subst vq
 try dsimp only at hM
 replace H : St w w3z [] R := H.back H2_ rfl
 clear H2_
 refine sA (I r2) rfl <| s_nil <| sQ rfl <| sM (I r2) rfl <| sC r2 0 (r2 != 0) rfl rfl rfl <| s_nil ?_
 refine W.cond (r2 != 0) rfl (fun c5z => ?_) (fun c5z => ?_)
 ·replace hM := M.e_t hM c5z
  simp only [qz1, qz2, qz3, qz4, qz5, qz6, ne_eq, qz7] at c5z
  refine sQ rfl <| sM (I r2) rfl <| sA (B false) rfl <| sA (I r2) rfl <| s_nil ?_
  refine W.ret ?_
  have hr_ := M.e_pure hM
  exact ⟨_, resE_tmp2 rfl, ⟨false, r2, hr_, rfl, H⟩⟩
 replace hM := M.e_f hM c5z
 simp only [qz1, qz2, qz3, qz4, qz5, qz6, ne_eq, qz7] at c5z
 refine W.skip <| W.seq <| sQ rfl <| sA (I 0) rfl <| s_nil <| W.block ?_
 obtain ⟨ex6z, hi7z, hk8z⟩ := M.e_bind hM
 obtain ⟨m0_, hi7z⟩ := M.e_iter hi7z
 refine W.loop (fun m σ W => ∃ (i : Nat) (ρ : Env), σ = upds ρ [(0, v_w_), (1, v_l), (7, I (i : Int))] ∧ M.iterN (m_nilometerref13_Leads_b0 w_ l) m i = some ex6z ∧ St w W [] R) ?_ ?_
 ·exact ⟨_, 0, _, upds_of _ _ ⟨rfl, rfl, rfl, trivial⟩, hi7z, H⟩
 rintro m11z σ w9z ⟨i, ρ, rfl, hI10z, H⟩
 obtain ⟨m12z, lt13z, x14z, hM, hN15z⟩ := M.e_iterN hI10z
 simp only [m_nilometerref13_Leads_b0] at hM
 clear hI10z
 refine W.seq <| sQ rfl <| sM (I (i : Int)) rfl <| sM v_l rfl ?_
 have hl16z := (hs_l).len_le
 refine s_val (x_lenS T34.und rfl hs_l) <| sC (i : Int) (l.length : Int) (decide ((i : Int) < (l.length : Int))) rfl rfl rfl <| s_nil ?_
 refine W.cond (decide ((i : Int) < (l.length : Int))) rfl (fun c17z => ?_) (fun c17z => ?_)
 ·replace hM := M.e_t hM c17z
  simp only [qz1, qz2, qz3, qz4, qz5, qz6, ne_eq, qz7] at c17z
  refine W.skip <| W.seq <| W.block <| sQ rfl <| sM v_l rfl <| sM (I (i : Int)) rfl ?_
  obtain ⟨sd18z, hM⟩ := M.e_gd hM
  refine s_val (x_ix (a := v_l) (b := I (i : Int)) (v := vat v_l 1 (Int.toNat (i : Int))) rfl rfl (Sl.ix (α := Int) T34.und T34.size hs_l (by omega) (by omega))) <| s_val (x_ld (p := vat v_l 1 (Int.toNat (i : Int))) (v := I (l.getD i 0)) rfl (ld_sc Sc3 (At.mono (Int_at hs_l (i := (i : Int)) (by omega) (by omega)) (hC_l.at H)))) <| sM v_w_ rfl ?_
  have hl19z := (hs_w_).len_le
  refine s_val (x_lenS T39.und rfl hs_w_) <| sR (w_.length : Int) 1 ((w_.length : Int) - 1) rfl rfl rfl (by omega) ?_
  refine s_call cf89 [I (l.getD i 0), I 0, I ((w_.length : Int) - 1)] rfl (outside_any (l.getD i 0) 0 ((w_.length : Int) - 1) _) ?_
  rintro _ w20z ⟨rfl, hx_⟩
  replace H : St w w20z [] R := H.ext hx_
  clear hx_
  refine s_nil ?_
  refine W.cond (outB (l.getD i 0) 0 ((w_.length : Int) - 1)) rfl (fun c21z => ?_) (fun c21z => ?_)
  ·replace hM := M.e_t hM c21z
   refine sQ rfl <| sA (B false) rfl <| sA (I 2) rfl <| s_nil ?_
   refine W.ret ?_
   have hX22z := M.e_inr hM hN15z
   subst hX22z
   replace hM := hk8z
   try dsimp only at hM
   have hr_ := M.e_pure hM
   exact ⟨_, resE_tmp2 rfl, ⟨false, 2, hr_, rfl, H⟩⟩
  replace hM := M.e_f hM c21z
  refine W.skip <| W.region rfl <| sM (I (i : Int)) rfl <| sR (i : Int) 1 ((i : Int) + 1) rfl rfl rfl (by omega) <| sA (I ((i : Int) + 1)) rfl <| s_nil ?_
  exact ⟨m12z, lt13z, i + 1, _, upds_of _ _ ⟨rfl, rfl, rfl, trivial⟩, M.e_inl hM hN15z, H⟩
 replace hM := M.e_f hM c17z
 simp only [qz1, qz2, qz3, qz4, qz5, qz6, ne_eq, qz7] at c17z
 refine W.exit ?_
 have hX23z := M.e_inr hM hN15z
 subst hX23z
 replace hM := hk8z
 try dsimp only at hM
 refine sQ rfl <| sM v_w_ rfl <| sM v_l rfl ?_
 obtain ⟨r25z, hx24z, hM⟩ := M.e_bind hM
 refine s_call cf105 [v_w_, v_l] rfl (nilometerref13_leads_ok w_ l (hC_w_.app _) hs_w_ (hC_l.app _) hs_l hx24z _ (St.give (T := []) H rfl)) ?_
 rintro vq w26z ⟨r3, hr27z, hvq, H2_⟩
 subst hr27z
 subst vq
 try dsimp only at hM
 replace H : St w w26z [] R := H.back H2_ rfl
 clear H2_
 refine sA (B r3) rfl <| sA (I 0) rfl <| s_nil ?_
 refine W.ret ?_
 have hr_ := M.e_pure hM
 exact ⟨_, resE_tmp2 rfl, ⟨r3, 0, hr_, rfl, H⟩⟩

end Go.Proofs.Ytndobgodeicloaa
end
namespace Go.Proofs.Ytndobgodeicloaa
open Go Go.Nm
variable {ws : List Work} {rev f : List Int}
end Go.Proofs.Ytndobgodeicloaa
namespace Go.Proofs.Ytndobgodeicloaa
open Go Go.Nm
variable {ws : List Work} {rev f : List Int}
structure RRel (ws : List Work) (rev : List Int) (t : Nat) (R : List Int) : Prop where
  len : R.length = ws.length
  eq : ∀ x ∈ (orderP ws).take t, R.getD x.toNat 0 = (readyR ws rev).getD x.toNat 0
theorem refLeads_ends {l : List Int} (hO : openedE ws = 0) (hr : ∀ x ∈ l, 0 ≤ x ∧ x < (ws.length : Int)) (hl : l.length ≤ 1000000) : (m_nilometerref13_Leads ws l).Ends (lineB ws l && decide (0 < (l.length : Int)), 0) := by
  unfold m_nilometerref13_Leads
  refine M.i_bind (check_ends ws) (M.i_f (by simp [hO]) ?_)
  have s0 := M.i_scan (b := m_nilometerref13_Leads_b0 ws l) l.length (fun _ => false) (fun i hi _ => ?_) (fun _ => ?_)
  · rw [show (List.range l.length).any (fun _ => false) = false from by simp] at s0
    refine M.i_bind s0 (M.i_bind (a := lineB ws l && decide (0 < (l.length : Int))) ?_ M.i_pure)
    unfold m_nilometerref13_leads
    have s1 := M.i_scan (b := m_nilometerref13_leads_b0 ws l) (l.length - 1) (fun i => !((ws.getD (l.getD (i + 1) 0).toNat default).of.contains (l.getD i 0))) (fun i hi _ => ?_) (fun _ => ?_)
    · refine M.i_bind s1 ?_
      rw [lineB_at]
      cases (List.range (l.length - 1)).any fun i => !((ws.getD (l.getD (i + 1) 0).toNat default).of.contains (l.getD i 0)) <;> exact M.i_pure
    · have hm := hr _ (getD_memN l (i := i + 1) (by omega) 0)
      simp only [m_nilometerref13_leads_b0, show ((i : Int) + 1).toNat = i + 1 from by omega]
      refine M.i_grd (gA2 (by omega) (by omega)) (M.i_t (by simp; omega) (M.i_grd (gA2 (by omega) (by omega)) (M.i_grd (gA2 hm.1 hm.2) (M.grdD (by omega) ?_))))
      cases (ws.getD (l.getD (i + 1) 0).toNat default).of.contains (l.getD i 0) <;> exact M.i_pure
    · simp only [m_nilometerref13_leads_b0]
      exact M.i_grd (gA2 (by omega) (by omega)) (M.i_f (by simp; omega) M.i_pure)
  · have hm := hr _ (getD_memN l (by omega : (i : Int) < _) 0)
    have hi' : inB (l.getD i 0) 0 ((ws.length : Int) - 1) = true := by unfold inB; simp only [Bool.and_eq_true, decide_eq_true_eq]; omega
    simp only [m_nilometerref13_Leads_b0, outB_eq]
    rw [hi']
    exact M.i_t (by simpa using hi) (M.grdD (by omega) (M.i_f rfl M.i_pure))
  · simp only [m_nilometerref13_Leads_b0]
    exact M.i_f (by simp) M.i_pure
end Go.Proofs.Ytndobgodeicloaa
section
set_option maxRecDepth 100000
set_option maxHeartbeats 16000000
namespace Go.Proofs.Ytndobgodeicloaa
open Go Go.Nm
end Go.Proofs.Ytndobgodeicloaa
end
namespace Go.Nm
structure SOk (c u x : Int) : Prop where
  u0 : 0 ≤ u
  u1 : u ≤ c
  x0 : 0 ≤ x
  x1 : x < 251
theorem SOk.mono {c d u x : Int} (h : SOk c u x) (hd : c ≤ d) : SOk d u x := ⟨h.u0, Int.le_trans h.u1 hd, h.x0, h.x1⟩
/-- What a stream gives: a number below n. -/
structure Nx (c n : Int) (y : Int × Int × Int) : Prop where
  ok : SOk c y.2.1 y.2.2
  lt : 1 ≤ n → 0 ≤ y.1 ∧ y.1 < n
  no : n < 1 → y.1 = 0
end Go.Nm
namespace Go.Proofs.Ytndobgodeicloaa
open Go Go.Nm
/-! ### Works -/
structure OfOk (i : Nat) (l : List Int) : Prop where
  few : l.length ≤ 5
  ahead : ∀ k ∈ l, 0 ≤ k ∧ k < (i : Int)
  once : l.Nodup
  early : i ≤ 2 → l = []
/-- What works of numbers are like. -/
structure MadeW (most : Int) (ws : List Work) : Prop where
  built : Built ws
  two : 2 ≤ ws.length
  most : (ws.length : Int) ≤ most
  small : ∀ i, i < ws.length → (ws.getD i default).base < 2000 ∧ (ws.getD i default).minutes < 60
  src : ∀ i, i < ws.length → i ≤ 2 → (ws.getD i default).of = []
end Go.Proofs.Ytndobgodeicloaa
namespace Go.Nm
end Go.Nm
namespace Go.Nm
end Go.Nm
namespace Go.Nm
variable {ws : List Work} {l e : List Note}
/-! ### Notes -/
def Uniq (l : List Note) : Prop := ∀ a ∈ l, ∀ b ∈ l, a.work = b.work → a.version = b.version → a = b
theorem Uniq.add {l l' : List Note} {n : Note} (h : Uniq l) (hm : ∀ a ∈ l', a ∈ l ∨ a = n) (hn : ∀ a ∈ l, ¬ (a.work = n.work ∧ a.version = n.version)) : Uniq l' := by
  intro a ha b hb h1 h2
  rcases hm a ha with ha | rfl <;> rcases hm b hb with hb | rfl
  · exact h a ha b hb h1 h2
  · exact absurd ⟨h1, h2⟩ (hn a ha)
  · exact absurd ⟨h1.symm, h2.symm⟩ (hn b hb)
  · rfl
structure NG (ws : List Work) (l : List Note) : Prop where
  few : l.length ≤ 200
  src : ∀ n ∈ l, 0 ≤ n.work ∧ n.work < (ws.length : Int) ∧ (ws.getD n.work.toNat default).of = []
  rng : ∀ n ∈ l, 0 ≤ n.version ∧ n.version ≤ 1000000 ∧ 0 ≤ n.value ∧ n.value ≤ 1000002
  uniq : Uniq l
/-! ### Values -/
/-! ### Lists in order -/
theorem asc_of {l : List Int} (h : l.Pairwise (· < ·)) : AscTo l l.length := by
  intro j h1 h2
  rw [getD_el l (by omega) 0, getD_el l h2 0]
  exact List.pairwise_iff_getElem.1 h (j - 1) j (by omega) h2 (by omega)
theorem listed_of {n : Nat} {l : List Int} (h : ∀ x ∈ l, 0 ≤ x ∧ x < (n : Int)) (ha : l.Pairwise (· < ·)) : listedE n l = 0 := by
  unfold listedE
  rw [if_neg, if_pos (asc_of ha)]
  rw [Bool.not_eq_true, Bool.not_eq_false', List.all_eq_true]
  intro x hx
  have := h x hx
  unfold inB
  simp only [Bool.and_eq_true, decide_eq_true_eq]
  omega
/-! ### Publications -/
end Go.Nm
namespace Go.Nm
structure NtOk (ws : List Work) (s : Nat) (l6 l7 : List Note) : Prop where
  src : ∀ n ∈ l6 ++ l7, 0 ≤ n.work ∧ n.work < (s : Int) ∧ (ws.getD n.work.toNat default).of = []
  rng : ∀ n ∈ l6 ++ l7, 0 ≤ n.version ∧ n.version ≤ 8 ∧ 0 ≤ n.value ∧ n.value < 2000
  uniq : Uniq (l6 ++ l7)
  all : ∀ i, i < s → (ws.getD i default).of = [] → ∃ n ∈ l6, n.work = (i : Int)
  len6 : l6.length ≤ s
  len7 : l7.length ≤ 8 * s
theorem NtOk.next {ws : List Work} {s : Nat} {l6 l7 : List Note} (h : NtOk ws s l6 l7) (hs : (ws.getD s default).of ≠ []) : NtOk ws (s + 1) l6 l7 :=
  ⟨fun n hn => by have := h.src n hn; exact ⟨this.1, by omega, this.2.2⟩, h.rng, h.uniq, fun i hi he => by
    by_cases e : i = s
    · subst e; exact absurd he hs
    · exact h.all i (by omega) he, by have := h.len6; omega, by have := h.len7; omega⟩
/-- Old notes of one source, up to a version. -/
structure OldOk (ws : List Work) (s v : Nat) (n0 : Note) (l6 l7 l : List Note) : Prop where
  src : ∀ b ∈ l, b ∈ l7 ∨ (b.work = (s : Int) ∧ 0 ≤ b.version ∧ b.version < (v : Int) ∧ 0 ≤ b.value ∧ b.value < 2000)
  uniq : Uniq ((l6 ++ [n0]) ++ l)
  len : l.length ≤ l7.length + v
theorem NtOk.start {ws : List Work} {s : Nat} {l6 l7 : List Note} (h : NtOk ws s l6 l7) {n0 : Note} (hw : n0.work = (s : Int)) : OldOk ws s 0 n0 l6 l7 l7 := by
  refine ⟨fun b hb => .inl hb, ?_, Nat.le_refl _⟩
  refine h.uniq.add (n := n0) (fun a ha => ?_) (fun a ha hh => ?_)
  · simp only [List.mem_append, List.mem_cons, List.not_mem_nil, or_false] at ha ⊢
    rcases ha with (ha | ha) | ha
    · exact .inl (.inl ha)
    · exact .inr ha
    · exact .inl (.inr ha)
  · have := h.src a ha
    rw [hw] at hh
    omega
theorem OldOk.skip {ws : List Work} {s v : Nat} {n0 : Note} {l6 l7 l : List Note} (h : OldOk ws s v n0 l6 l7 l) : OldOk ws s (v + 1) n0 l6 l7 l :=
  ⟨fun b hb => (h.src b hb).imp id fun x => ⟨x.1, x.2.1, by omega, x.2.2.2⟩, h.uniq, by have := h.len; omega⟩
theorem OldOk.put {ws : List Work} {s v : Nat} {n0 : Note} {l6 l7 l : List Note} (hN : NtOk ws s l6 l7) (h : OldOk ws s v n0 l6 l7 l) (hv : (v : Int) < n0.version) {z : Int} (z0 : 0 ≤ z) (z1 : z < 2000) :
    OldOk ws s (v + 1) n0 l6 l7 (l ++ [⟨(s : Int), (v : Int), z⟩]) := by
  refine ⟨fun b hb => ?_, ?_, by have := h.len; simp only [List.length_append, List.length_cons, List.length_nil]; omega⟩
  · rcases List.mem_append.1 hb with hb | hb
    · exact h.skip.src b hb
    · rw [List.mem_singleton] at hb
      subst hb
      exact .inr ⟨rfl, by dsimp only; omega, by dsimp only; omega, z0, z1⟩
  · refine h.uniq.add (n := ⟨(s : Int), (v : Int), z⟩) (fun a ha => ?_) (fun a ha hh => ?_)
    · rw [← List.append_assoc, List.mem_append, List.mem_singleton] at ha
      exact ha
    · dsimp only at hh
      simp only [List.mem_append, List.mem_cons, List.not_mem_nil, or_false] at ha
      rcases ha with (ha | ha) | ha
      · have := hN.src a (List.mem_append_left _ ha); omega
      · subst ha; omega
      · rcases h.src a ha with ha | ha
        · have := hN.src a (List.mem_append_right _ ha); omega
        · omega
theorem OldOk.done {ws : List Work} {s v : Nat} {n0 : Note} {l6 l7 l : List Note} (hN : NtOk ws s l6 l7) (h : OldOk ws s v n0 l6 l7 l) (hw : n0.work = (s : Int)) (hs : (ws.getD s default).of = [])
    (hv : 0 ≤ n0.version ∧ n0.version ≤ 8 ∧ 0 ≤ n0.value ∧ n0.value < 2000) (hv8 : (v : Int) ≤ 8) : NtOk ws (s + 1) (l6 ++ [n0]) l := by
  have hm : ∀ n ∈ (l6 ++ [n0]) ++ l, n ∈ l6 ++ l7 ∨ n = n0 ∨ (n.work = (s : Int) ∧ 0 ≤ n.version ∧ n.version < (v : Int) ∧ 0 ≤ n.value ∧ n.value < 2000) := by
    intro n hn
    simp only [List.mem_append, List.mem_cons, List.not_mem_nil, or_false] at hn ⊢
    rcases hn with (hn | hn) | hn
    · exact .inl (.inl hn)
    · exact .inr (.inl hn)
    · rcases h.src n hn with h1 | h1
      · exact .inl (.inr h1)
      · exact .inr (.inr h1)
  refine ⟨fun n hn => ?_, fun n hn => ?_, h.uniq, fun i hi he => ?_, ?_, ?_⟩
  · rcases hm n hn with h1 | h1 | h1
    · have := hN.src n h1; exact ⟨this.1, by omega, this.2.2⟩
    · subst h1; rw [hw]; exact ⟨by omega, by omega, by rw [Int.toNat_natCast]; exact hs⟩
    · rw [h1.1]; exact ⟨by omega, by omega, by rw [Int.toNat_natCast]; exact hs⟩
  · rcases hm n hn with h1 | h1 | h1
    · exact hN.rng n h1
    · subst h1; exact hv
    · omega
  · by_cases e : i = s
    · exact ⟨n0, by simp, by rw [hw, e]⟩
    · obtain ⟨n, h1, h2⟩ := hN.all i (by omega) he
      exact ⟨n, List.mem_append_left _ h1, h2⟩
  · have := hN.len6; simp only [List.length_append, List.length_cons, List.length_nil]; omega
  · have := hN.len7; have := h.len; omega
end Go.Nm
namespace Go.Proofs.Ytndobgodeicloaa
open Go Go.Nm
variable {ws : List Work}
end Go.Proofs.Ytndobgodeicloaa
section
set_option maxRecDepth 100000
set_option maxHeartbeats 16000000
namespace Go.Proofs.Ytndobgodeicloaa
open Go Go.Nm
def m_notes_Leads_1 (i : Int) (k02 : List Work) : M Bool :=
  M.pure (inB i 0 ((k02.length : Int) - 1))
theorem notes_Leads_1_ok {R : List Chunk} {b_k0 : Nat} {C_k02 : Cells} {v_k02 : Value} (i : Int) (k02 : List Work) (hC_k02 : Reads R C_k02) (hs_k02 : Sl C_k02 v_k02 k02) (h_b_k0 : Has R (cBlk b_k0 [v_k02] 22)) {r : Bool} (hM : (m_notes_Leads_1 i k02).Ends r) (w : World) (H : St w w [] R) : Ret Try.prog 106 #[I i, Pz b_k0] w fun v w' => ∃ (y0 : Bool), y0 = r ∧ v = B y0 ∧ St w w' [] R := by
 refine ret_of_W Try.func106 rfl rfl rfl ?_
 refine sQ rfl <| sA (B false) rfl <| s_nil <| sQ rfl <| sM (I i) rfl <| s_val (x_ld (p := Pz b_k0) (v := v_k02) rfl (ldb_sc Sc22 (h_b_k0.blk H) rfl)) ?_
 have hl1z := (hs_k02).len_le
 refine s_val (x_lenS T22.und rfl hs_k02) <| sR (k02.length : Int) 1 ((k02.length : Int) - 1) rfl rfl rfl (by omega) ?_
 refine s_call cf84 [I i, I 0, I ((k02.length : Int) - 1)] rfl (in_any i 0 ((k02.length : Int) - 1) _) ?_
 rintro _ w2z ⟨rfl, hx_⟩
 replace H : St w w2z [] R := H.ext hx_
 clear hx_
 refine sA (B (inB i 0 ((k02.length : Int) - 1))) rfl <| s_nil ?_
 refine W.ret ?_
 have hr_ := M.e_pure hM
 exact ⟨_, resE_tmp rfl, ⟨(inB i 0 ((k02.length : Int) - 1)), hr_, rfl, H⟩⟩

def m_notes_web_leads_b0 (w__list_works : List Work) (line_ : List Int) : Nat → M (Nat ⊕ (Unit ⊕ Unit)) := fun i =>
  bif decide ((i : Int) < (line_.length : Int)) then (
  M.grd (decide ((i : Int) < (line_.length : Int))) <|
  M.grd (decide ((-9223372036854775808 : Int) ≤ ((i : Int) - 1)) && decide (((i : Int) - 1) ≤ (9223372036854775807 : Int))) <|
  M.grd (decide ((0 : Int) ≤ ((i : Int) - 1)) && decide (((i : Int) - 1) < (line_.length : Int))) <|
  M.bind (m_notes_web_of w__list_works (line_.getD i 0) (line_.getD (Int.toNat ((i : Int) - 1)) 0)) fun r2 =>
  bif !r2 then (
  M.pure (.inr (.inl ())))
  else (
  M.pure (.inl (i + 1))))
  else (
  M.pure (.inr (.inr ())))
def m_notes_web_leads (w__list_works : List Work) (line_ : List Int) : M Bool :=
  M.bind (M.iter (m_notes_web_leads_b0 w__list_works line_) 1) fun x_ => match x_ with
  | (.inl (_ : Unit)) => (
  M.pure false)
  | (.inr (_ : Unit)) => (
  M.pure (decide (0 < (line_.length : Int))))
theorem notes_web_leads_ok {R : List Chunk} {b_w_ : Nat} {C_w__list_works : Cells} {v_w__list_works : Value} {C_line_ : Cells} {v_line_ : Value} (w__list_works : List Work) (line_ : List Int) (hC_w__list_works : Reads R C_w__list_works) (hs_w__list_works : Sl C_w__list_works v_w__list_works w__list_works) (h_b_w_ : Has R (cBlk b_w_ [v_w__list_works] 187)) (hC_line_ : Reads R C_line_) (hs_line_ : Sl C_line_ v_line_ line_) {r : Bool} (hM : (m_notes_web_leads w__list_works line_).Ends r) (w : World) (H : St w w [] R) : Ret Try.prog 107 #[Pz b_w_, v_line_] w fun v w' => ∃ (y0 : Bool), y0 = r ∧ v = B y0 ∧ St w w' [] R := by
 refine ret_of_W Try.func107 rfl rfl rfl ?_
 refine sQ rfl <| sA (B false) rfl <| s_nil <| sQ rfl <| sM (Pz b_w_) rfl <| s_val (x_mf (fs := [Pz b_w_]) (cs := []) rfl rfl) <| sA (.func (.func 149) #[Pz b_w_] #[]) rfl <| s_nil <| W.seq <| W.seq ?_
 refine W.region rfl <| sA (I 1) rfl <| s_nil <| W.block ?_
 obtain ⟨ex1z, hi2z, hk3z⟩ := M.e_bind hM
 obtain ⟨m0_, hi2z⟩ := M.e_iter hi2z
 refine W.loop (fun m σ W => ∃ (i : Nat) (ρ : Env), σ = upds ρ [(1, v_line_), (5, .func (.func 149) #[Pz b_w_] #[]), (6, I (i : Int))] ∧ M.iterN (m_notes_web_leads_b0 w__list_works line_) m i = some ex1z ∧ St w W [] R) ?_ ?_
 ·exact ⟨_, 1, _, upds_of _ _ ⟨rfl, rfl, rfl, trivial⟩, hi2z, H⟩
 rintro m6z σ w4z ⟨i, ρ, rfl, hI5z, H⟩
 obtain ⟨m7z, lt8z, x9z, hM, hN10z⟩ := M.e_iterN hI5z
 simp only [m_notes_web_leads_b0] at hM
 clear hI5z
 refine W.seq <| sQ rfl <| sM (I (i : Int)) rfl <| sM v_line_ rfl ?_
 have hl11z := (hs_line_).len_le
 refine s_val (x_lenS T34.und rfl hs_line_) <| sC (i : Int) (line_.length : Int) (decide ((i : Int) < (line_.length : Int))) rfl rfl rfl <| s_nil ?_
 refine W.cond (decide ((i : Int) < (line_.length : Int))) rfl (fun c12z => ?_) (fun c12z => ?_)
 ·replace hM := M.e_t hM c12z
  simp only [qz1, qz2, qz3, qz4, qz5, qz6, ne_eq, qz7] at c12z
  refine W.skip <| W.seq <| W.block <| W.seq ?_
  refine W.draw (fun W => St w W [] R) [(0, true), (1, true), (2, true), (3, true), (4, true), (5, true), (6, true), (7, true), (8, true), (9, true), (10, false), (11, true)] mixed (by decide +kernel) rfl ?_
  intro w13z hx_
  replace H : St w w13z [] R := H.ext hx_
  clear hx_
  refine ⟨(H.pick [] (by decide) rfl), ?_⟩
  refine d_q rfl (fun w' H => x_mv (v := .func (.func 149) #[Pz b_w_] #[]) rfl) ?_
  refine d_q rfl (fun w' H => x_mv (v := v_line_) rfl) ?_
  refine d_q rfl (fun w' H => x_mv (v := I (i : Int)) rfl) ?_
  obtain ⟨sd14z, hM⟩ := M.e_gd hM
  refine d_q rfl (fun w' H => x_ix (a := v_line_) (b := I (i : Int)) (v := vat v_line_ 1 (Int.toNat (i : Int))) rfl rfl (Sl.ix (α := Int) T34.und T34.size hs_line_ (by omega) (by omega))) ?_
  refine d_q rfl (fun w' H => x_ld (p := vat v_line_ 1 (Int.toNat (i : Int))) (v := I (line_.getD i 0)) rfl (ld_sc Sc3 (At.mono (Int_at hs_line_ (i := (i : Int)) (by omega) (by omega)) (hC_line_.at H)))) ?_
  refine d_q rfl (fun w' H => x_mv (v := v_line_) rfl) ?_
  refine d_q rfl (fun w' H => x_mv (v := I (i : Int)) rfl) ?_
  obtain ⟨sd15z, hM⟩ := M.e_gd hM
  refine d_q rfl (fun w' H => x_ari (a := (i : Int)) (b := 1) (r := (i : Int) - 1) rfl rfl rfl (by omega)) ?_
  obtain ⟨sd16z, hM⟩ := M.e_gd hM
  refine d_q rfl (fun w' H => x_ix (a := v_line_) (b := I ((i : Int) - 1)) (v := vat v_line_ 1 (Int.toNat ((i : Int) - 1))) rfl rfl (Sl.ix (α := Int) T34.und T34.size hs_line_ (by omega) (by omega))) ?_
  refine d_q rfl (fun w' H => x_ld (p := vat v_line_ 1 (Int.toNat ((i : Int) - 1))) (v := I (line_.getD (Int.toNat ((i : Int) - 1)) 0)) rfl (ld_sc Sc3 (At.mono (Int_at hs_line_ (i := (i : Int) - 1) (by omega) (by omega)) (hC_line_.at H)))) ?_
  refine d_l rfl ?_
  obtain ⟨r18z, hx17z, hM⟩ := M.e_bind hM
  refine s_callm (f := 149) (fs := [Pz b_w_]) rfl cf149 [I (line_.getD i 0), I (line_.getD (Int.toNat ((i : Int) - 1)) 0)] rfl (notes_web_of_ok w__list_works (line_.getD i 0) (line_.getD (Int.toNat ((i : Int) - 1)) 0) (hC_w__list_works.app _) hs_w__list_works (h_b_w_.app _) hx17z _ (St.give (T := []) H rfl)) ?_
  rintro vq w19z ⟨r2, hr20z, hvq, H2_⟩
  subst hr20z
  subst vq
  try dsimp only at hM
  replace H : St w w19z [] R := H.back H2_ rfl
  clear H2_
  refine s_nil ⟨(H.pick [] (by decide) rfl), ?_⟩
  refine d_q rfl (fun w' H => x_not (b := r2) rfl) ?_
  refine d_nil ?_
  refine W.cond (!r2) rfl (fun c21z => ?_) (fun c21z => ?_)
  ·replace hM := M.e_t hM c21z
   refine sQ rfl <| sA (B false) rfl <| s_nil ?_
   refine W.ret ?_
   have hX22z := M.e_inr hM hN10z
   subst hX22z
   replace hM := hk3z
   try dsimp only at hM
   have hr_ := M.e_pure hM
   exact ⟨_, resE_tmp rfl, ⟨false, hr_, rfl, H⟩⟩
  replace hM := M.e_f hM c21z
  refine W.skip <| W.region rfl <| sM (I (i : Int)) rfl <| sR (i : Int) 1 ((i : Int) + 1) rfl rfl rfl (by omega) <| sA (I ((i : Int) + 1)) rfl <| s_nil ?_
  exact ⟨m7z, lt8z, i + 1, _, upds_of _ _ ⟨rfl, rfl, rfl, trivial⟩, M.e_inl hM hN10z, H⟩
 replace hM := M.e_f hM c12z
 simp only [qz1, qz2, qz3, qz4, qz5, qz6, ne_eq, qz7] at c12z
 refine W.exit ?_
 have hX23z := M.e_inr hM hN10z
 subst hX23z
 replace hM := hk3z
 try dsimp only at hM
 refine sQ rfl <| sM v_line_ rfl ?_
 have hl24z := (hs_line_).len_le
 refine s_val (x_lenS T34.und rfl hs_line_) <| sC (line_.length : Int) 0 (decide (0 < (line_.length : Int))) rfl rfl rfl <| sA (B (decide (0 < (line_.length : Int)))) rfl <| s_nil ?_
 refine W.ret ?_
 have hr_ := M.e_pure hM
 exact ⟨_, resE_tmp rfl, ⟨(decide (0 < (line_.length : Int))), hr_, rfl, H⟩⟩

def m_notes_Leads (w_ : List Work) (line_ : List Int) : M (Bool × Int) :=
  bif (openedE w_ == 0) then (
  bif (0 : Int) != 0 then (M.fail) else (M.bind (m_notes_every_int (fun xqz => m_notes_Leads_1 xqz w_) line_) fun r2 =>
  bif !r2 then (
  M.pure (false, 2))
  else (
  M.bind (m_notes_web_leads w_ line_) fun r3 =>
  M.pure (r3, 0))))
  else (
  bif (openedE w_) != 0 then (
  M.pure (false, (openedE w_)))
  else (
  M.bind (m_notes_every_int (fun xqz => m_notes_Leads_1 xqz w_) line_) fun r2 =>
  bif !r2 then (
  M.pure (false, 2))
  else (
  M.fail)))
theorem notes_Leads_ok {R : List Chunk} {C_w_ : Cells} {v_w_ : Value} {C_line_ : Cells} {v_line_ : Value} (w_ : List Work) (line_ : List Int) (hC_w_ : Reads R C_w_) (hs_w_ : Sl C_w_ v_w_ w_) (hC_line_ : Reads R C_line_) (hs_line_ : Sl C_line_ v_line_ line_) {r : (Bool × Int)} (hM : (m_notes_Leads w_ line_).Ends r) (w : World) (H : St w w [] R) : Ret Try.prog 51 #[v_w_, v_line_] w fun v w' => ∃ (y0 : Bool) (y1 : Int), (y0, y1) = r ∧ v = .tuple #[B y0, I y1] ∧ St w w' [] R := by
 refine ret_of_W Try.func51 rfl rfl rfl ?_
 refine sQ rfl ?_
 refine t_box (v := v_w_) (cs := [v_w_]) H rfl (Sl.cells hs_w_) ?_
 intro b_1 w1z H
 refine sA (B false) rfl <| sA (I 0) rfl <| s_nil <| sQ rfl <| s_val (x_ld (p := Pz b_1) (v := v_w_) rfl (ldb_sc Sc22 (H.blk (k := 0) rfl) rfl)) ?_
 refine s_call cf81 [v_w_] rfl (opened_any _ (hs_w_.mono (hC_w_.at H))) ?_
 rintro _ w2z (⟨he_, rfl, hx_⟩ | ⟨he_, b_2, u3z, rfl, hn_, hs4z⟩)
 ·replace hM := M.e_f hM (by simpa using he_)
  replace H : St w w2z [cBlk b_1 [v_w_] 22] R := H.ext hx_
  clear hx_
  refine sM (.tuple #[.pointer none, .slice none 0 0, I (openedE w_)]) rfl <| sX [.pointer none, .slice none 0 0, I (openedE w_)] (.pointer none) rfl rfl <| sX [.pointer none, .slice none 0 0, I (openedE w_)] (.slice none 0 0) rfl rfl <| sX [.pointer none, .slice none 0 0, I (openedE w_)] (I (openedE w_)) rfl rfl <| sA (.pointer none) rfl <| sA (.slice none 0 0) rfl <| sA (I (openedE w_)) rfl <| s_nil <| W.seq <| W.block <| sQ rfl ?_
  refine sM (I (openedE w_)) rfl <| sC (openedE w_) 0 ((openedE w_) != 0) rfl rfl rfl <| sA (B ((openedE w_) != 0)) rfl <| s_nil ?_
  refine W.cond ((openedE w_) != 0) rfl (fun c5z => ?_) (fun c5z => ?_)
  ·replace hM := M.e_t hM c5z
   simp only [qz1, qz2, qz3, qz4, qz5, qz6, ne_eq, qz7] at c5z
   refine sQ rfl <| sM (I (openedE w_)) rfl <| sA (B false) rfl <| sA (I (openedE w_)) rfl <| s_nil ?_
   refine W.ret ?_
   have hr_ := M.e_pure hM
   exact ⟨_, resE_tmp2 rfl, ⟨false, (openedE w_), hr_, rfl, (H.pick [] (by decide) rfl)⟩⟩
  replace hM := M.e_f hM c5z
  simp only [qz1, qz2, qz3, qz4, qz5, qz6, ne_eq, qz7] at c5z
  refine sQ rfl <| s_val (x_mf (fs := []) (cs := [Pz b_1]) rfl rfl) <| sM v_line_ rfl ?_
  obtain ⟨r7z, hx6z, hM⟩ := M.e_bind hM
  refine s_call cf87 [.func (.func 106) #[] #[Pz b_1], v_line_] rfl (notes_every_int_ok (fun xqz => m_notes_Leads_1 xqz w_) line_ ⟨106, [Pz b_1], rfl, cf106, fun wqz Lqz Cqz vqz xqz bqz hsqz hCqz hAqz hpqz => by obtain rfl := Arg.int hAqz; exact (notes_Leads_1_ok xqz w_ (Reads.app (hC_w_.app _) _) hs_w_ (Has.app (Has.here (k := 0) rfl) _) hpqz wqz (St.refl hsqz)).mono fun vqz wqz ⟨yqz, hrqz, hvqz, Hqz⟩ => by subst hrqz; exact ⟨hvqz, Hqz⟩⟩ (hC_line_.app _) hs_line_ hx6z _ (St.give (T := [cBlk b_1 [v_w_] 22]) H rfl)) ?_
  rintro vq w8z ⟨r2, hr9z, hvq, H2_⟩
  subst hr9z
  subst vq
  try dsimp only at hM
  replace H : St w w8z [cBlk b_1 [v_w_] 22] R := H.back H2_ rfl
  clear H2_
  refine s_val (x_not (b := r2) rfl) <| sA (B (!r2)) rfl <| s_nil ?_
  refine W.cond (!r2) rfl (fun c10z => ?_) (fun c10z => ?_)
  ·replace hM := M.e_t hM c10z
   refine sQ rfl <| sA (B false) rfl <| sA (I 2) rfl <| s_nil ?_
   refine W.ret ?_
   have hr_ := M.e_pure hM
   exact ⟨_, resE_tmp2 rfl, ⟨false, 2, hr_, rfl, (H.pick [] (by decide) rfl)⟩⟩
  replace hM := M.e_f hM c10z
  refine W.skip <| sQ rfl <| sM (.pointer none) rfl <| sM v_line_ rfl ?_
  exact (M.e_fail hM).elim
 replace hM := M.e_t hM (by simpa using he_)
 obtain ⟨Bs_3, H2_, hs4z, hb_b_2⟩ := H.freshNB hn_ hs4z
 replace H : St w w2z [cRo Bs_3, cBlk b_1 [v_w_] 22] R := H2_
 clear H2_ hn_
 have hl_hs4z := hs4z.len_le
 refine sM (.tuple #[Pz b_2, u3z, I 0]) rfl <| sX [Pz b_2, u3z, I 0] (Pz b_2) rfl rfl <| sX [Pz b_2, u3z, I 0] u3z rfl rfl <| sX [Pz b_2, u3z, I 0] (I 0) rfl rfl <| sA (Pz b_2) rfl <| sA u3z rfl <| sA (I 0) rfl <| s_nil <| W.seq <| W.block <| sQ rfl ?_
 refine sM (I 0) rfl <| sC 0 0 ((0 : Int) != 0) rfl rfl rfl <| sA (B ((0 : Int) != 0)) rfl <| s_nil ?_
 refine W.cond ((0 : Int) != 0) rfl (fun c11z => ?_) (fun c11z => ?_)
 ·skip
  exact absurd c11z (by decide)
 skip
 replace hM := M.e_f hM c11z
 refine sQ rfl <| s_val (x_mf (fs := []) (cs := [Pz b_1]) rfl rfl) <| sM v_line_ rfl ?_
 obtain ⟨r13z, hx12z, hM⟩ := M.e_bind hM
 refine s_call cf87 [.func (.func 106) #[] #[Pz b_1], v_line_] rfl (notes_every_int_ok (fun xqz => m_notes_Leads_1 xqz w_) line_ ⟨106, [Pz b_1], rfl, cf106, fun wqz Lqz Cqz vqz xqz bqz hsqz hCqz hAqz hpqz => by obtain rfl := Arg.int hAqz; exact (notes_Leads_1_ok xqz w_ (Reads.app (hC_w_.app _) _) hs_w_ (Has.app (Has.here (k := 1) rfl) _) hpqz wqz (St.refl hsqz)).mono fun vqz wqz ⟨yqz, hrqz, hvqz, Hqz⟩ => by subst hrqz; exact ⟨hvqz, Hqz⟩⟩ (hC_line_.app _) hs_line_ hx12z _ (St.give (T := [cRo Bs_3, cBlk b_1 [v_w_] 22]) H rfl)) ?_
 rintro vq w14z ⟨r2, hr15z, hvq, H2_⟩
 subst hr15z
 subst vq
 try dsimp only at hM
 replace H : St w w14z [cRo Bs_3, cBlk b_1 [v_w_] 22] R := H.back H2_ rfl
 clear H2_
 refine s_val (x_not (b := r2) rfl) <| sA (B (!r2)) rfl <| s_nil ?_
 refine W.cond (!r2) rfl (fun c16z => ?_) (fun c16z => ?_)
 ·replace hM := M.e_t hM c16z
  refine sQ rfl <| sA (B false) rfl <| sA (I 2) rfl <| s_nil ?_
  refine W.ret ?_
  have hr_ := M.e_pure hM
  exact ⟨_, resE_tmp2 rfl, ⟨false, 2, hr_, rfl, (H.pick [] (by decide) rfl)⟩⟩
 replace hM := M.e_f hM c16z
 refine W.skip <| sQ rfl <| sM (Pz b_2) rfl <| sM v_line_ rfl ?_
 obtain ⟨r18z, hx17z, hM⟩ := M.e_bind hM
 refine s_call cf107 [Pz b_2, v_line_] rfl (notes_web_leads_ok w_ line_ (hC_w_.app _) hs_w_ (Has.ro (k := 0) rfl hb_b_2) (hC_line_.app _) hs_line_ hx17z _ (St.give (T := [cRo Bs_3, cBlk b_1 [v_w_] 22]) H rfl)) ?_
 rintro vq w19z ⟨r3, hr20z, hvq, H2_⟩
 subst hr20z
 subst vq
 try dsimp only at hM
 replace H : St w w19z [cRo Bs_3, cBlk b_1 [v_w_] 22] R := H.back H2_ rfl
 clear H2_
 refine sA (B r3) rfl <| sA (I 0) rfl <| s_nil ?_
 refine W.ret ?_
 have hr_ := M.e_pure hM
 exact ⟨_, resE_tmp2 rfl, ⟨r3, 0, hr_, rfl, (H.pick [] (by decide) rfl)⟩⟩

end Go.Proofs.Ytndobgodeicloaa
end
namespace Go.Nm
theorem M.i_scanF {b : Nat → M (Nat ⊕ (Unit ⊕ Unit))} (n i0 : Nat) (bad : Nat → Bool) (h0 : ∀ j < i0, bad j = false) (hi0 : i0 ≤ n) (hb : ∀ i, i0 ≤ i → i < n → (∀ j < i, bad j = false) → (b i).Ends (if bad i then .inr (.inl ()) else .inl (i + 1))) (he : (∀ j < n, bad j = false) → (b n).Ends (.inr (.inr ()))) :
    (M.iter b i0).Ends (if (List.range n).any bad then .inl () else .inr ()) := by
  have key : ∀ k i, n = i + k → i0 ≤ i → (∀ j < i, bad j = false) → (M.iter b i).Ends (if (List.range n).any bad then .inl () else .inr ()) := by
    intro k
    induction k with
    | zero =>
      intro i hi _ hj
      have hn : n = i := by omega
      rw [hn] at he ⊢
      have : (List.range i).any bad = false := List.any_eq_false.2 fun j hj' => by simp [hj j (List.mem_range.1 hj')]
      rw [this]
      exact M.i_stop (he hj)
    | succ k ih =>
      intro i hi hii hj
      have h1 := hb i hii (by omega) hj
      cases hc : bad i with
      | true =>
        rw [hc] at h1
        have : (List.range n).any bad = true := List.any_eq_true.2 ⟨i, List.mem_range.2 (by omega), hc⟩
        rw [this]
        exact M.i_stop h1
      | false =>
        rw [hc] at h1
        refine M.i_next h1 (ih (i + 1) (by omega) (by omega) fun j hj' => ?_)
        by_cases e : j = i
        · rw [e]; exact hc
        · exact hj j (by omega)
  exact key (n - i0) i0 (by omega) (Nat.le_refl _) h0
theorem lineB_at1 {ws : List Work} (l : List Int) : lineB ws l = !((List.range l.length).any fun i => decide (1 ≤ i) && !((ws.getD (l.getD i 0).toNat default).of.contains (l.getD (i - 1) 0))) := by
  rw [lineB_at]
  cases hl : l.length with
  | zero => rfl
  | succ n =>
    rw [List.range_succ_eq_map, List.any_cons, List.any_map, Nat.add_sub_cancel]
    rfl
end Go.Nm
namespace Go.Proofs.Ytndobgodeicloaa
open Go Go.Nm
variable {ws : List Work}
structure RevOk (ws : List Work) (rv : List Int) : Prop where
  some : rv ≠ []
  asc : rv.Pairwise (· < ·)
  lt : ∀ x ∈ rv, 0 ≤ x ∧ x < (ws.length : Int)
  few : rv.length ≤ ws.length
theorem RevOk.asked {rv : List Int} (h : RevOk ws rv) (hO : openedE ws = 0) : askedE ws rv = 0 := by rw [asked_list hO]; exact listed_of h.lt h.asc
theorem webOf_ends {i : Int} (h0 : 0 ≤ i) (h1 : i < ws.length) (x : Int) : (m_notes_web_of ws i x).Ends ((ws.getD i.toNat default).of.contains x) := by
  unfold m_notes_web_of
  exact M.i_grd (gA2 h0 h1) M.i_pure
theorem everyInt_ends {s : List Int} {f : Int → M Bool} {p : Int → Bool} (hf : ∀ x ∈ s, (f x).Ends (p x)) : (m_notes_every_int f s).Ends (s.all p) := by
  have key : ∃ r, (m_slices_IndexFunc_int s (fun x => m_notes_every_int__1 x f)).Ends r ∧ decide (0 ≤ r) = !(s.all p) := by
    have h := M.i_loopQ (body := m_slices_IndexFunc_int_b0 s (fun x => m_notes_every_int__1 x f)) (fun r => match r with | .inl k => 0 ≤ k ∧ s.all p = false | .inr _ => s.all p = true)
      (fun m i => m = s.length - i ∧ i ≤ s.length ∧ (s.take i).all p = true) (by
        rintro m i ⟨rfl, hi, ha⟩
        simp only [m_slices_IndexFunc_int_b0]
        by_cases e : i < s.length
        · have hp := M.i_bind (hf _ (getD_memN s (by omega : (i : Int) < _) 0)) (k := fun r2 => M.pure (!r2)) M.i_pure
          have hp : (m_notes_every_int__1 (s.getD i 0) f).Ends _ := hp
          cases hc : p (s.getD i 0) with
          | false =>
            rw [hc] at hp
            exact .inr ⟨.inl (i : Int), M.i_t (by simpa using e) (M.grdD (by omega) (M.i_bind hp M.i_pure)), by omega, List.all_eq_false.2 ⟨_, getD_memN s (by omega : (i : Int) < _) 0, by rw [hc]; decide⟩⟩
          | true =>
            rw [hc] at hp
            exact .inl ⟨i + 1, s.length - (i + 1), by omega, M.i_t (by simpa using e) (M.grdD (by omega) (M.i_bind hp M.i_pure)), rfl, e, by rw [all_take_succ p s e 0, ha, hc]; rfl⟩
        · obtain rfl : i = s.length := by omega
          rw [List.take_length] at ha
          exact .inr ⟨.inr (), M.i_f (by simp) M.i_pure, ha⟩) _ 0 ⟨rfl, Nat.zero_le _, by simp⟩
    obtain ⟨r, h1, h2⟩ := h
    cases r with
    | inl k => exact ⟨k, M.i_bind h1 M.i_pure, by rw [h2.2]; simpa using h2.1⟩
    | inr u => exact ⟨-1, M.i_bind h1 M.i_pure, by dsimp only at h2; rw [h2]; rfl⟩
  obtain ⟨r, h1, h2⟩ := key
  rw [show s.all p = !(decide (0 ≤ r)) from by rw [h2, Bool.not_not]]
  exact M.i_bind (M.i_bind h1 M.i_pure) M.i_pure
theorem notesLeads_ends {l : List Int} (hO : openedE ws = 0) (hr : ∀ x ∈ l, 0 ≤ x ∧ x < (ws.length : Int)) (hl : l.length ≤ 1000000) : (m_notes_Leads ws l).Ends (lineB ws l && decide (0 < (l.length : Int)), 0) := by
  unfold m_notes_Leads
  have he := everyInt_ends (s := l) (f := fun x => m_notes_Leads_1 x ws) (p := fun x => inB x 0 ((ws.length : Int) - 1)) (fun x _ => M.i_pure)
  have ha : (l.all fun x => inB x 0 ((ws.length : Int) - 1)) = true := by
    rw [List.all_eq_true]
    intro x hx
    have := hr x hx
    unfold inB
    simp only [Bool.and_eq_true, decide_eq_true_eq]
    omega
  rw [ha] at he
  refine M.i_t (by simp [hO]) (M.i_f rfl (M.i_bind he (M.i_f rfl (M.i_bind (a := lineB ws l && decide (0 < (l.length : Int))) ?_ M.i_pure))))
  unfold m_notes_web_leads
  by_cases hz : l = []
  · subst hz
    have h0 : (M.iter (m_notes_web_leads_b0 ws []) 1).Ends (.inr ()) := M.i_stop (by simp only [m_notes_web_leads_b0]; exact M.i_f (by simp) M.i_pure)
    exact M.i_bind h0 M.i_pure
  · have hl1 : 1 ≤ l.length := List.length_pos_iff.2 hz
    have s1 := M.i_scanF (b := m_notes_web_leads_b0 ws l) l.length 1 (fun i => decide (1 ≤ i) && !((ws.getD (l.getD i 0).toNat default).of.contains (l.getD (i - 1) 0))) (fun j hj => by rw [decide_eq_false (by omega)]; rfl) hl1 (fun i h1 hi _ => ?_) (fun _ => ?_)
    · refine M.i_bind s1 ?_
      rw [lineB_at1]
      cases (List.range l.length).any fun i => decide (1 ≤ i) && !((ws.getD (l.getD i 0).toNat default).of.contains (l.getD (i - 1) 0)) <;> exact M.i_pure
    · have hm := hr _ (getD_memN l (by omega : (i : Int) < _) 0)
      simp only [m_notes_web_leads_b0, show ((i : Int) - 1).toNat = i - 1 from by omega]
      refine M.i_t (by simpa using hi) (M.grdD (by omega) (M.i_grd (gA2 (by omega) (by omega)) (M.i_grd (gA2 (by omega) (by omega)) (M.i_bind (webOf_ends hm.1 hm.2 _) ?_))))
      rw [decide_eq_true h1, Bool.true_and]
      cases (ws.getD (l.getD i 0).toNat default).of.contains (l.getD (i - 1) 0) <;> exact M.i_pure
    · simp only [m_notes_web_leads_b0]
      exact M.i_f (by simp) M.i_pure
end Go.Proofs.Ytndobgodeicloaa
namespace Go.Nm
open Go
section
variable {P : Program} {w : World} {σ : Env} {d : Nat} {ty : TypeId} {pos : String} {af : Array Edge} {g : Option (Nat × Bool)}
theorem sl_none {α : Type} [Elt α] {C : Cells} {v : Value} {l : List α} (h : Sl C v l) (hn : l = [] → v = .slice none 0 0) : ∃ a n c, v = .slice a n c ∧ a.isNone = l.isEmpty := by
  cases l with
  | nil => exact ⟨none, 0, 0, hn rfl, rfl⟩
  | cons x l =>
    obtain ⟨a, c, hv, _, _, hh⟩ := h.ex
    obtain ⟨b, o, cs, rfl, _⟩ := hh 0 x rfl
    exact ⟨_, _, _, hv, rfl⟩
theorem x_eqnil {α : Type} [Elt α] {t e yt : TypeId} {x y : Operand} {C : Cells} {v : Value} {l : List α} (ht : P.underlying t = some (.slice e)) (hx : ev σ x = v) (hy : ev σ y = .slice none 0 0) (h : Sl C v l) (hn : l = [] → v = .slice none 0 0) :
    (execOp (ev σ) ⟨some d, .binOp .eql t x y yt, ty, pos, af, g⟩).run P w = .ok (.value (.bool l.isEmpty)) w := by
  obtain ⟨a, n, c, rfl, ha⟩ := sl_none h hn
  simp [execOp, hx, hy, eqGuard, binOp, run_equal_slice_nil w t e a n c ht, ha]
theorem x_nenil {α : Type} [Elt α] {t e yt : TypeId} {x y : Operand} {C : Cells} {v : Value} {l : List α} (ht : P.underlying t = some (.slice e)) (hx : ev σ x = v) (hy : ev σ y = .slice none 0 0) (h : Sl C v l) (hn : l = [] → v = .slice none 0 0) :
    (execOp (ev σ) ⟨some d, .binOp .neq t x y yt, ty, pos, af, g⟩).run P w = .ok (.value (.bool (!l.isEmpty))) w := by
  obtain ⟨a, n, c, rfl, ha⟩ := sl_none h hn
  simp [execOp, hx, hy, eqGuard, binOp, run_equal_slice_nil w t e a n c ht, ha]
end
end Go.Nm
section
set_option maxRecDepth 100000
set_option maxHeartbeats 16000000
namespace Go.Proofs.Ytndobgodeicloaa
open Go Go.Nm
def m_notes_web_search (w__list_works : List Work) (enters : Int → M Bool) : M (Int → Option Bool) :=
  M.pure (fun _ => none)
theorem notes_web_search_ok {R : List Chunk} {b_w_ : Nat} {C_w__list_works : Cells} {v_w__list_works : Value} {v_enters : Value} (w__list_works : List Work) (enters : Int → M Bool) (hC_w__list_works : Reads R C_w__list_works) (hs_w__list_works : Sl C_w__list_works v_w__list_works w__list_works) (h_b_w_ : Has R (cBlk b_w_ [v_w__list_works] 187)) (hf_enters : FnM Try.prog R v_enters enters) {r : (Int → Option Bool)} (hM : (m_notes_web_search w__list_works enters).Ends r) (w : World) (H : St w w [] R) : Ret Try.prog 108 #[Pz b_w_, v_enters] w fun v w' => ∃ (y0 : Int → Option Bool) (nb0 : Nat) (nb1 : Nat), y0 = r ∧ v = Pz nb0 ∧ St w w' [cBlk nb0 [Pz b_w_, v_enters, .map (some nb1)] 211, cMap I B nb1 y0] R := by
 refine ret_of_W Try.func108 rfl rfl rfl ?_
 refine sQ rfl <| sA (.pointer none) rfl <| s_nil <| sQ rfl <| sM (Pz b_w_) rfl <| sM v_enters rfl ?_
 refine t_mkmap (κ := Int) (ν := Bool) I B H ?_
 intro b_1 w1z H
 refine s_val (x_bld (ps := [(0, Pz b_w_), (1, v_enters), (2, .map (some b_1))]) (zs := [.pointer none, .nilFunc, .map none]) (L' := [Pz b_w_, v_enters, .map (some b_1)]) rfl Try.underlying211 Al211 rfl (Bd211 Try.underlying211) (.cons (cs := [Pz b_w_]) rfl rfl rfl rfl rfl <| .cons (cs := [v_enters]) (FnM.cells hf_enters) rfl rfl rfl rfl <| .cons (cs := [.map (some b_1)]) rfl rfl rfl rfl rfl <| .nil)) ?_
 refine t_box (v := .agg #[Pz b_w_, v_enters, .map (some b_1)]) (cs := [Pz b_w_, v_enters, .map (some b_1)]) H rfl rfl ?_
 intro b_2 w2z H
 refine sA (Pz b_2) rfl <| s_nil ?_
 refine W.ret ?_
 have hr_ := M.e_pure hM
 exact ⟨_, resE_tmp rfl, ⟨(fun _ => none), b_2, b_1, hr_, rfl, H⟩⟩

def m_notes_Line_1 (x : Int) : M Bool :=
  M.pure true
theorem notes_Line_1_ok {R : List Chunk}  (x : Int)  {r : Bool} (hM : (m_notes_Line_1 x).Ends r) (w : World) (H : St w w [] R) : Ret Try.prog 109 #[I x] w fun v w' => ∃ (y0 : Bool), y0 = r ∧ v = B y0 ∧ St w w' [] R := by
 refine ret_of_W Try.func109 rfl rfl rfl ?_
 refine sQ rfl <| sA (B false) rfl <| s_nil <| sQ rfl <| sA (B true) rfl <| s_nil ?_
 refine W.ret ?_
 have hr_ := M.e_pure hM
 exact ⟨_, resE_tmp rfl, ⟨true, hr_, rfl, H⟩⟩

def m_notes_search_on_b0 (s_web_list_works : List Work) (s_enters : Int → M Bool) (from_ : Int) (to_ : Int) (self_ : ((List Work) × (Int → M Bool) × (Int → Option Bool) × Int × Int) → M ((List Int) × (Int → Option Bool))) : (Int → Option Bool) → Int → M ((Int → Option Bool) ⊕ ((List Int) × (Int → Option Bool))) := fun mp x =>
  bif ((!((mp (x : Int)).getD false)) && (x != to_)) then (
  M.bind (s_enters x) fun r8 =>
  bif (((mp (x : Int)).getD false) || ((x != to_) && (!r8))) then (
  M.pure (.inl mp))
  else (
  M.bind (self_ (s_web_list_works, s_enters, mp, x, to_)) fun (r4, q_b_s_met) =>
  bif !r4.isEmpty then (
  M.grd (decide ((([(from_ : Int)]).length + r4.length) * 8 ≤ 140737488355328)) <|
  M.pure (.inr (([(from_ : Int)]) ++ r4, q_b_s_met)))
  else (
  M.pure (.inl q_b_s_met))))
  else (
  bif (((mp (x : Int)).getD false) || ((x != to_) && (!false))) then (
  M.pure (.inl mp))
  else (
  M.bind (self_ (s_web_list_works, s_enters, mp, x, to_)) fun (r4, q_b_s_met) =>
  bif !r4.isEmpty then (
  M.grd (decide ((([(from_ : Int)]).length + r4.length) * 8 ≤ 140737488355328)) <|
  M.pure (.inr (([(from_ : Int)]) ++ r4, q_b_s_met)))
  else (
  M.pure (.inl q_b_s_met))))
def m_notes_search_on_F (self_ : ((List Work) × (Int → M Bool) × (Int → Option Bool) × Int × Int) → M ((List Int) × (Int → Option Bool))) : ((List Work) × (Int → M Bool) × (Int → Option Bool) × Int × Int) → M ((List Int) × (Int → Option Bool)) := fun (s_web_list_works, s_enters, s_met, from_, to_) =>
  bif from_ == to_ then (
  M.pure (([(to_ : Int)]), s_met))
  else (
  M.bind (m_notes_web_made s_web_list_works from_) fun r10 =>
  M.bind (m_notes_web_made_1 (M.yl (m_notes_search_on_b0 s_web_list_works s_enters from_ to_ self_)) (.inl (updF s_met (from_ : Int) true)) s_web_list_works r10) fun x_ => match x_ with
  | .inl mp => (
  M.pure (([]), mp))
  | .inr (l, mp2) => (
  M.grd (decide (0 < l.length)) <|
  M.pure (l, mp2)))
theorem m_notes_search_on_mon : M.Mon m_notes_search_on_F := by
  intro n f g h a
  obtain ⟨s_web_list_works, s_enters, s_met, from_, to_⟩ := a
  simp only [m_notes_search_on_F, m_notes_search_on_b0]
  repeat' (first | exact M.le_same _ _ | exact h _ | refine M.le_grd ?_ | refine M.le_if ?_ ?_ | refine M.le_bind ?_ (fun x => ?_) | refine M.le_opt ?_ | refine M.le_iter (fun x => ?_) _ | refine m_notes_web_made_1_le (M.le_yl (fun s_ a_ => ?_)) _ _ _ | (rename_i x; cases x) | (rename_i x; obtain ⟨_, _⟩ := x))
def m_notes_search_on (s_web_list_works : List Work) (s_enters : Int → M Bool) (s_met : Int → Option Bool) (from_ : Int) (to_ : Int) : M ((List Int) × (Int → Option Bool)) := M.fix m_notes_search_on_F m_notes_search_on_mon (s_web_list_works, s_enters, s_met, from_, to_)
theorem notes_search_on_okN (n_ : Nat) : ∀ {R : List Chunk} {b_s : Nat} {b_s_web : Nat} {C_s_web_list_works : Cells} {v_s_web_list_works : Value} {v_s_enters : Value} {b_s_met : Nat} (s_web_list_works : List Work) (s_enters : Int → M Bool) (s_met : Int → Option Bool) (from_ : Int) (to_ : Int) (hC_s_web_list_works : Reads R C_s_web_list_works) (hs_s_web_list_works : Sl C_s_web_list_works v_s_web_list_works s_web_list_works) (h_b_s_web : Has R (cBlk b_s_web [v_s_web_list_works] 187)) (hf_s_enters : FnM Try.prog R v_s_enters s_enters) (h_b_s : Has R (cBlk b_s [Pz b_s_web, v_s_enters, .map (some b_s_met)] 211)) {r : ((List Int) × (Int → Option Bool))} (hM : (M.fixN m_notes_search_on_F n_ (s_web_list_works, s_enters, s_met, from_, to_)).Ends r) (w : World) (H : St w w [cMap I B b_s_met s_met] R), Ret Try.prog 150 #[Pz b_s, I from_, I to_] w fun v w' => ∃ (y0 : List Int) (y1 : Int → Option Bool) (u0 : Value), (y0, y1) = r ∧ v = u0 ∧ St w w' [cOwn (α := Int) 3 u0 y0, cMap I B b_s_met y1] R ∧ (y0 = [] → u0 = .slice none 0 0) := by
  induction n_ with
  | zero => intro R b_s b_s_web C_s_web_list_works v_s_web_list_works v_s_enters b_s_met s_web_list_works s_enters s_met from_ to_ hC_s_web_list_works hs_s_web_list_works h_b_s_web hf_s_enters h_b_s r hM w H; exact (M.e_fail hM).elim
  | succ n_ ih =>
    intro R b_s b_s_web C_s_web_list_works v_s_web_list_works v_s_enters b_s_met s_web_list_works s_enters s_met from_ to_ hC_s_web_list_works hs_s_web_list_works h_b_s_web hf_s_enters h_b_s r hM w H
    refine ret_of_WD Try.func150 rfl rfl rfl ?_
    replace H : St w w [cMk ([]), cMap I B b_s_met s_met] R := H.mk0
    have hl_s_web_list_works := hs_s_web_list_works.len_le
    simp only [M.fixN, m_notes_search_on_F] at hM
    refine WD.seq ?_
    refine WD.of ?_
    refine W.region rfl ?_
    refine t_box (v := Pz b_s) (cs := [Pz b_s]) H rfl rfl ?_
    intro b_1 w1z H
    refine t_box (v := I from_) (cs := [I from_]) H rfl rfl ?_
    intro b_2 w2z H
    refine t_box (v := I to_) (cs := [I to_]) H rfl rfl ?_
    intro b_3 w3z H
    refine t_alloc (cs := [.slice none 0 0]) H Al34 rfl ?_
    intro b_4 w4z H
    refine s_nil ?_
    refine WD.seq ?_
    refine WD.seq ?_
    refine WD.of ?_
    refine W.region rfl <| s_val (x_ld (p := Pz b_2) (v := I from_) rfl (ldb_sc Sc3 (H.blk (k := 2) rfl) rfl)) <| s_val (x_ld (p := Pz b_3) (v := I to_) rfl (ldb_sc Sc3 (H.blk (k := 1) rfl) rfl)) <| sC from_ to_ (from_ == to_) rfl rfl rfl <| s_nil ?_
    refine WD.cond (from_ == to_) rfl (fun c5z => ?_) (fun c5z => ?_)
    ·replace hM := M.e_t hM c5z
     simp only [qz1, qz2, qz3, qz4, qz5, qz6, ne_eq, qz7] at c5z
     refine WD.seq ?_
     refine WD.of ?_
     refine W.region rfl <| s_val (x_ld (p := Pz b_3) (v := I to_) rfl (ldb_sc Sc3 (H.blk (k := 1) rfl) rfl)) ?_
     refine t_bs (α := Int) T34 [I to_] [(to_ : Int)] H rfl (.cons rfl (Flat.rep_enc _ (to_ : Int)) <| .nil) rfl rfl rfl ?_
     intro v6z w7z H
     refine t_st (k := 1) (b := b_4) (off := 0) (cs := [.slice none 0 0]) (vs := [v6z]) (cs' := [v6z]) (v := v6z) (L' := [cOwn (α := Int) 3 v6z ([(to_ : Int)]), cBlk b_4 [v6z] 34, cBlk b_3 [I to_] 3, cBlk b_2 [I from_] 3, cBlk b_1 [Pz b_s] 160, cMk ([]), cMap I B b_s_met s_met]) H rfl rfl rfl Sz34 (Sl.cells (ownSl (H.get (k := 0) rfl))) rfl rfl (by simp only [List.all_cons, List.all_nil, Bool.true_and, Bool.and_true, Sl.oc (ownSl (H.get (k := 0) rfl))]; try rfl) rfl rfl ?_
     intro w8z H
     refine s_nil ?_
     refine WD.of ?_
     refine W.ret ?_
     refine bodyD_r (H.pick [5, 0, 1, 2, 3, 4, 6] (by decide) rfl) ?_
     intro w9z H
     replace H : St w w9z [cOwn (α := Int) 3 v6z ([(to_ : Int)]), cBlk b_4 [v6z] 34, cBlk b_3 [I to_] 3, cBlk b_2 [I from_] 3, cBlk b_1 [Pz b_s] 160, cMap I B b_s_met s_met] R := H
     have hb10z := (H.blk (k := 1) rfl)
     have hr_ := M.e_pure hM
     exact ⟨_, (resE_of1 (v := v6z) rfl (.cell (v := v6z) rfl (run_loadVar_sc Sc34 hb10z rfl) <| .nil)), ⟨([(to_ : Int)]), s_met, v6z, hr_, rfl, (H.pick [0, 5] (by decide) rfl), (fun h_ => absurd h_ (by simp))⟩⟩
    replace hM := M.e_f hM c5z
    simp only [qz1, qz2, qz3, qz4, qz5, qz6, ne_eq, qz7] at c5z
    refine WD.of ?_
    refine W.skip ?_
    refine WD.seq ?_
    refine WD.of ?_
    refine W.draw (fun W => St w W [cBlk b_4 [.slice none 0 0] 34, cBlk b_3 [I to_] 3, cBlk b_2 [I from_] 3, cBlk b_1 [Pz b_s] 160, cMk ([])] R) [(0, true), (1, true), (2, true), (3, true), (4, true), (5, false)] mixed (by decide +kernel) rfl ?_
    intro w11z hx_
    replace H : St w w11z [cBlk b_4 [.slice none 0 0] 34, cBlk b_3 [I to_] 3, cBlk b_2 [I from_] 3, cBlk b_1 [Pz b_s] 160, cMk ([]), cMap I B b_s_met s_met] R := H.ext hx_
    clear hx_
    refine ⟨(H.pick [0, 1, 2, 3, 4] (by decide) rfl), ?_⟩
    refine d_q rfl (fun w' H => x_ld (p := Pz b_1) (v := Pz b_s) rfl (ldb_sc Sc160 (H.blk (k := 3) rfl) rfl)) ?_
    refine d_q rfl (fun w' H => x_nc (a := ⟨b_s, 0, none⟩) rfl) ?_
    refine d_q rfl (fun w' H => x_fa (a := Pz b_s) (v := Oz b_s 2) rfl (fa_blk (o := 0) Fd211_2 Sz178)) ?_
    refine d_q rfl (fun w' H => x_ld (p := Oz b_s 2) (v := .map (some b_s_met)) rfl (ldb_sc Sc178 (h_b_s.blk H) rfl)) ?_
    refine d_q rfl (fun w' H => x_ld (p := Pz b_2) (v := I from_) rfl (ldb_sc Sc3 (H.blk (k := 2) rfl) rfl)) ?_
    refine d_l rfl ?_
    refine t_mapu (i := 5) (kenc := I) (venc := B) (f := s_met) (k := (from_ : Int)) (v := true) (L' := [cBlk b_4 [.slice none 0 0] 34, cBlk b_3 [I to_] 3, cBlk b_2 [I from_] 3, cBlk b_1 [Pz b_s] 160, cMk ([]), cMap I B b_s_met (updF s_met (from_ : Int) true)]) keyIntB Try.underlying178 H rfl rfl rfl rfl rfl ?_
    intro w12z H
    refine s_nil ⟨(H.pick [0, 1, 2, 3, 4] (by decide) rfl), ?_⟩
    refine d_nil ?_
    refine WD.seq ?_
    refine WD.seq ?_
    refine WD.of ?_
    refine W.draw (fun W => St w W [cBlk b_4 [.slice none 0 0] 34, cBlk b_3 [I to_] 3, cBlk b_2 [I from_] 3, cBlk b_1 [Pz b_s] 160, cMk ([]), cMap I B b_s_met (updF s_met (from_ : Int) true)] R) [(0, true), (1, true), (2, true), (3, true), (4, true), (5, false)] mixed (by decide +kernel) rfl ?_
    intro w13z hx_
    replace H : St w w13z [cBlk b_4 [.slice none 0 0] 34, cBlk b_3 [I to_] 3, cBlk b_2 [I from_] 3, cBlk b_1 [Pz b_s] 160, cMk ([]), cMap I B b_s_met (updF s_met (from_ : Int) true)] R := H.ext hx_
    clear hx_
    refine ⟨(H.pick [0, 1, 2, 3, 4, 5] (by decide) rfl), ?_⟩
    refine d_q rfl (fun w' H => x_ld (p := Pz b_1) (v := Pz b_s) rfl (ldb_sc Sc160 (H.blk (k := 3) rfl) rfl)) ?_
    refine d_q rfl (fun w' H => x_nc (a := ⟨b_s, 0, none⟩) rfl) ?_
    refine d_q rfl (fun w' H => x_fa (a := Pz b_s) (v := Pz b_s) rfl (fa_blk (o := 0) Fd211_0 Sz127)) ?_
    refine d_q rfl (fun w' H => x_ld (p := Pz b_s) (v := Pz b_s_web) rfl (ldb_sc Sc127 (h_b_s.blk H) rfl)) ?_
    refine d_q rfl (fun w' H => x_ld (p := Pz b_2) (v := I from_) rfl (ldb_sc Sc3 (H.blk (k := 2) rfl) rfl)) ?_
    refine d_l rfl ?_
    obtain ⟨r15z, hx14z, hM⟩ := M.e_bind hM
    refine s_call cf98 [Pz b_s_web, I from_] rfl (notes_web_made_ok s_web_list_works from_ (hC_s_web_list_works.app _) hs_s_web_list_works (h_b_s_web.app _) hx14z _ (St.give (T := [cBlk b_4 [.slice none 0 0] 34, cBlk b_3 [I to_] 3, cBlk b_2 [I from_] 3, cBlk b_1 [Pz b_s] 160, cMk ([]), cMap I B b_s_met (updF s_met (from_ : Int) true)]) H rfl)) ?_
    rintro vq w16z ⟨r10, nb0_6, nb1_7, hr17z, hvq, H2_⟩
    subst hr17z
    subst vq
    try dsimp only at hM
    replace H : St w w16z [cBlk nb0_6 [Pz b_s_web] 127, cBlk nb1_7 [I r10] 3, cBlk b_4 [.slice none 0 0] 34, cBlk b_3 [I to_] 3, cBlk b_2 [I from_] 3, cBlk b_1 [Pz b_s] 160, cMk ([]), cMap I B b_s_met (updF s_met (from_ : Int) true)] R := H.back H2_ rfl
    clear H2_
    refine s_nil ⟨(H.pick [2, 3, 4, 5, 6, 7] (by decide) rfl), ?_⟩
    refine d_nil ?_
    refine WD.block ?_
    obtain ⟨t18z, hx19z, hM⟩ := M.e_bind hM
    refine WD.range (L := [cBlk b_4 [.slice none 0 0] 34, cMap I B b_s_met (updF s_met (from_ : Int) true), cBlk nb0_6 [Pz b_s_web] 127, cBlk nb1_7 [I r10] 3, cBlk b_3 [I to_] 3, cBlk b_2 [I from_] 3, cBlk b_1 [Pz b_s] 160]) [Pz nb0_6, Pz nb1_7] (H.pick [6, 2, 7, 0, 1, 3, 4, 5] (by decide) rfl) rfl cf148 ?_
    intro l20z D21z r22z w23z hr24z H
    have hYC : YieldC Try.prog ([cMk (D21z :: ([])), cBlk nb0_6 [Pz b_s_web] 127, cBlk nb1_7 [I r10] 3, cBlk b_3 [I to_] 3, cBlk b_2 [I from_] 3, cBlk b_1 [Pz b_s] 160] ++ R) arI (yJ l20z r22z (fun mp Ls_ => Ls_ = [cBlk b_4 [.slice none 0 0] 34, cMap I B b_s_met mp]) (fun (l, mp2) Ls_ => ∃ (v_o_9 : Value), Ls_ = [cBlk b_4 [v_o_9] 34, cMap I B b_s_met mp2, cOwn (α := Int) 3 v_o_9 l]) (fun _ => .ret)) (.func (.yield l20z) #[] #[]) (M.yl (m_notes_search_on_b0 s_web_list_works s_enters from_ to_ (M.fixN m_notes_search_on_F n_))) := by
     refine YieldC.mk hr24z (fun mp Ls_ => Ls_ = [cBlk b_4 [.slice none 0 0] 34, cMap I B b_s_met mp]) (fun (l, mp2) Ls_ => ∃ (v_o_9 : Value), Ls_ = [cBlk b_4 [v_o_9] 34, cMap I B b_s_met mp2, cOwn (α := Int) 3 v_o_9 l]) (fun _ => .ret) (m_notes_search_on_b0 s_web_list_works s_enters from_ to_ (M.fixN m_notes_search_on_F n_)) (by rintro mp _ h_; obtain ⟨rfl⟩ := h_; rfl) (by rintro ⟨l, mp2⟩ _ h_; (obtain ⟨_, rfl⟩ := h_; rfl)) rfl (arI_len rfl) ?_
     intro C_ vs_ x W_ hA_
     obtain rfl := hA_
     refine W.region rfl <| sA (I x) rfl <| s_nil ?_
     refine ⟨rfl, rfl, ?_⟩
     intro w R hR_ Ls_ s_ r hY_ hM H
     skip
     obtain ⟨mp, hs_eq_⟩ : ∃ y_, y_ = s_ := ⟨_, rfl⟩
     subst hs_eq_
     obtain ⟨rfl⟩ := hY_
     replace hC_s_web_list_works := hC_s_web_list_works.sub hR_
     replace h_b_s_web := h_b_s_web.sub hR_
     replace hf_s_enters := hf_s_enters.sub hR_
     replace h_b_s := h_b_s.sub hR_
     replace hM : (m_notes_search_on_b0 s_web_list_works s_enters from_ to_ (M.fixN m_notes_search_on_F n_) mp x).Ends r := hM
     simp only [m_notes_search_on_b0] at hM
     replace H : St w w [cBlk b_4 [.slice none 0 0] 34, cMap I B b_s_met mp, cBlk nb0_6 [Pz b_s_web] 127, cBlk nb1_7 [I r10] 3, cBlk b_3 [I to_] 3, cBlk b_2 [I from_] 3, cBlk b_1 [Pz b_s] 160, cMk (D21z :: ([]))] R := H.pick [0, 1, 3, 4, 5, 6, 7, 2] (by decide) rfl
     refine W.block <| W.seq <| sQ rfl <| s_val (x_ld (p := Pz b_1) (v := Pz b_s) rfl (ldb_sc Sc160 (H.blk (k := 6) rfl) rfl)) <| s_val (x_nc (a := ⟨b_s, 0, none⟩) rfl) <| s_val (x_fa (a := Pz b_s) (v := Oz b_s 2) rfl (fa_blk (o := 0) Fd211_2 Sz178)) <| s_val (x_ld (p := Oz b_s 2) (v := .map (some b_s_met)) rfl (ldb_sc Sc178 (h_b_s.blk H) rfl)) <| sM (I x) rfl <| s_val (q_look (kenc := I) (venc := B) (f := mp) (k := (x : Int)) (v := B ((mp (x : Int)).getD false)) keyIntB Try.underlying178 Al4 rfl rfl (H.get (k := 1) rfl) false (by rw [if_neg (by decide), bool_val])) <| sM (B ((mp (x : Int)).getD false)) rfl <| g_val (!((mp (x : Int)).getD false)) (gy_f rfl) (fun hg => x_mv (v := I x) rfl) ?_
     refine g_val (!((mp (x : Int)).getD false)) (gy_f rfl) (fun hg => x_ld (p := Pz b_3) (v := I to_) rfl (ldb_sc Sc3 (H.blk (k := 4) rfl) rfl)) <| g_val (!((mp (x : Int)).getD false)) (gy_f rfl) (fun hg => x_cmp (kd := .i64) (a := x) (b := to_) (r := x != to_) (gd_of (c := !((mp (x : Int)).getD false)) hg (I x)) (gd_of (c := !((mp (x : Int)).getD false)) hg (I to_)) rfl) <| g_val (!((mp (x : Int)).getD false)) (gy_f rfl) (fun hg => x_mv (v := B (x != to_)) (gd_of (c := !((mp (x : Int)).getD false)) hg (B (x != to_)))) <| g_val ((!((mp (x : Int)).getD false)) && (x != to_)) (gy_gt rfl rfl) (fun hg => x_ld (p := Pz b_1) (v := Pz b_s) rfl (ldb_sc Sc160 (H.blk (k := 6) rfl) rfl)) <| g_val ((!((mp (x : Int)).getD false)) && (x != to_)) (gy_gt rfl rfl) (fun hg => x_nc (a := ⟨b_s, 0, none⟩) (gd_of (c := ((!((mp (x : Int)).getD false)) && (x != to_))) hg (Pz b_s))) <| g_val ((!((mp (x : Int)).getD false)) && (x != to_)) (gy_gt rfl rfl) (fun hg => x_fa (a := Pz b_s) (v := Oz b_s 1) (gd_of (c := ((!((mp (x : Int)).getD false)) && (x != to_))) hg (Pz b_s)) (fa_blk (o := 0) Fd211_1 Sz75)) <| g_val ((!((mp (x : Int)).getD false)) && (x != to_)) (gy_gt rfl rfl) (fun hg => x_ld (p := Oz b_s 1) (v := v_s_enters) (gd_of (c := ((!((mp (x : Int)).getD false)) && (x != to_))) hg (Oz b_s 1)) (ldb_sc Sc75 (h_b_s.blk H) rfl)) <| g_val ((!((mp (x : Int)).getD false)) && (x != to_)) (gy_gt rfl rfl) (fun hg => x_mv (v := I x) rfl) ?_
     refine g_splitV ((!((mp (x : Int)).getD false)) && (x != to_)) (B false) (gy_gt rfl rfl) (fun hg_ => ?_) (fun hg_ => ?_)
     ·replace hM := M.e_t hM hg_
      obtain ⟨r9, hx28z, hM⟩ := M.e_bind hM
      refine t_callM H hf_s_enters (gd_of (c := ((!((mp (x : Int)).getD false)) && (x != to_))) hg_ (v_s_enters)) (gd_of (c := ((!((mp (x : Int)).getD false)) && (x != to_))) hg_ (I x)) x Reads.none (Arg.mkI (fun _ => none) _) hx28z ?_
      intro w27z H
      refine g_val ((!((mp (x : Int)).getD false)) && (x != to_)) (gy_gt rfl rfl) (fun hg => x_not (b := r9) rfl) <| g_val (!((mp (x : Int)).getD false)) (gy_f rfl) (fun hg => x_pand (b := x != to_) (r := !r9) (gd_of (c := !((mp (x : Int)).getD false)) hg (B (x != to_))) (fun hb => gd_of (c := ((!((mp (x : Int)).getD false)) && (x != to_))) (by first | exact hb | (rw [hb]; rfl) | simp_all) (B (!r9))) rfl) <| s_val (x_por (b := (mp (x : Int)).getD false) (r := ((x != to_) && (!r9))) rfl rfl (fun hb => gd_of (c := !((mp (x : Int)).getD false)) (by first | exact hb | (rw [hb]; rfl) | simp_all) (B ((x != to_) && (!r9))))) <| s_nil ?_
      refine W.cond (((mp (x : Int)).getD false) || ((x != to_) && (!r9))) rfl (fun c29z => ?_) (fun c29z => ?_)
      ·replace hM := M.e_t hM c29z
       refine W.exit ?_
       exact ⟨mp, [cBlk b_4 [.slice none 0 0] 34, cMap I B b_s_met mp], (M.e_pure hM).symm, rfl, H.pick [0, 1, 7, 2, 3, 4, 5, 6] (by decide) rfl⟩
      replace hM := M.e_f hM c29z
      refine W.skip <| sQ rfl <| s_val (x_ld (p := Pz b_1) (v := Pz b_s) rfl (ldb_sc Sc160 (H.blk (k := 6) rfl) rfl)) <| sM (I x) rfl <| s_val (x_ld (p := Pz b_3) (v := I to_) rfl (ldb_sc Sc3 (H.blk (k := 4) rfl) rfl)) ?_
      obtain ⟨r31z, hx30z, hM⟩ := M.e_bind hM
      refine s_call cf150 [Pz b_s, I x, I to_] rfl (ih s_web_list_works s_enters mp x to_ (hC_s_web_list_works.app _) hs_s_web_list_works (h_b_s_web.app _) (hf_s_enters.app _) (h_b_s.app _) hx30z _ (St.give (L := [cMap I B b_s_met mp, cBlk b_4 [.slice none 0 0] 34, cBlk nb0_6 [Pz b_s_web] 127, cBlk nb1_7 [I r10] 3, cBlk b_3 [I to_] 3, cBlk b_2 [I from_] 3, cBlk b_1 [Pz b_s] 160, cMk (D21z :: ([]))]) (A := [cMap I B b_s_met mp]) (T := [cBlk b_4 [.slice none 0 0] 34, cBlk nb0_6 [Pz b_s_web] 127, cBlk nb1_7 [I r10] 3, cBlk b_3 [I to_] 3, cBlk b_2 [I from_] 3, cBlk b_1 [Pz b_s] 160, cMk (D21z :: ([]))]) (H.pick [1, 0, 2, 3, 4, 5, 6, 7] (by decide) rfl) rfl)) ?_
      rintro vq w32z ⟨r4, q_b_s_met, u0_8, hr33z, hvq, H2_, hf34z⟩
      subst hr33z
      subst vq
      try dsimp only at hM
      replace H : St w w32z [cOwn (α := Int) 3 u0_8 r4, cMap I B b_s_met q_b_s_met, cBlk b_4 [.slice none 0 0] 34, cBlk nb0_6 [Pz b_s_web] 127, cBlk nb1_7 [I r10] 3, cBlk b_3 [I to_] 3, cBlk b_2 [I from_] 3, cBlk b_1 [Pz b_s] 160, cMk (D21z :: ([]))] R := H.pick [1, 0, 2, 3, 4, 5, 6, 7] (by decide) rfl |>.back H2_ rfl
      clear H2_
      refine sA u0_8 rfl <| s_nil <| sQ rfl <| sM u0_8 rfl <| s_val (x_nenil (α := Int) T34.und rfl rfl (ownSl (H.get (k := 0) rfl)) hf34z) <| s_nil ?_
      refine W.cond (!r4.isEmpty) rfl (fun c35z => ?_) (fun c35z => ?_)
      ·replace hM := M.e_t hM c35z
       refine sQ rfl <| s_val (x_ld (p := Pz b_2) (v := I from_) rfl (ldb_sc Sc3 (H.blk (k := 6) rfl) rfl)) ?_
       refine t_bs (α := Int) T34 [I from_] [(from_ : Int)] H rfl (.cons rfl (Flat.rep_enc _ (from_ : Int)) <| .nil) rfl rfl rfl ?_
       intro v36z w37z H
       refine sM u0_8 rfl ?_
       obtain ⟨sd38z, hM⟩ := M.e_gd hM
       refine t_app (α := Int) (k := 0) (l := [(from_ : Int)]) (l2 := r4) (l' := ([(from_ : Int)]) ++ r4) (vy := u0_8) T34 rfl H rfl rfl rfl (ownSl (H.get (k := 1) rfl)) (ownLe _ (H.get (k := 1) rfl)) (rfl) (by first | omega | (simp only [List.length_nil] at *; omega)) ?_
       intro v39z w40z H
       replace H : St w w40z [cOwn (α := Int) 3 v39z (([(from_ : Int)]) ++ r4), cOwn (α := Int) 3 u0_8 r4, cMap I B b_s_met q_b_s_met, cBlk b_4 [.slice none 0 0] 34, cBlk nb0_6 [Pz b_s_web] 127, cBlk nb1_7 [I r10] 3, cBlk b_3 [I to_] 3, cBlk b_2 [I from_] 3, cBlk b_1 [Pz b_s] 160, cMk (D21z :: ([]))] R := H
       refine t_st (k := 3) (b := b_4) (off := 0) (cs := [.slice none 0 0]) (vs := [v39z]) (cs' := [v39z]) (v := v39z) (L' := [cOwn (α := Int) 3 v39z (([(from_ : Int)]) ++ r4), cOwn (α := Int) 3 u0_8 r4, cMap I B b_s_met q_b_s_met, cBlk b_4 [v39z] 34, cBlk nb0_6 [Pz b_s_web] 127, cBlk nb1_7 [I r10] 3, cBlk b_3 [I to_] 3, cBlk b_2 [I from_] 3, cBlk b_1 [Pz b_s] 160, cMk (D21z :: ([]))]) H rfl rfl rfl Sz34 (Sl.cells (ownSl (H.get (k := 0) rfl))) rfl rfl (by simp only [List.all_cons, List.all_nil, Bool.true_and, Bool.and_true, Sl.oc (ownSl (H.get (k := 0) rfl))]; try rfl) rfl rfl ?_
       intro w41z H
       refine s_nil ?_
       refine W.ret ?_
       exact ⟨(([(from_ : Int)]) ++ r4, q_b_s_met), [cBlk b_4 [v39z] 34, cMap I B b_s_met q_b_s_met, cOwn (α := Int) 3 v39z (([(from_ : Int)]) ++ r4)], (M.e_pure hM).symm, ⟨v39z, rfl⟩, H.pick [3, 2, 0, 9, 4, 5, 6, 7, 8] (by decide) rfl, rfl⟩
      replace hM := M.e_f hM c35z
      refine W.skip ?_
      exact ⟨q_b_s_met, [cBlk b_4 [.slice none 0 0] 34, cMap I B b_s_met q_b_s_met], (M.e_pure hM).symm, rfl, H.pick [2, 1, 8, 3, 4, 5, 6, 7] (by decide) rfl⟩
     replace hM := M.e_f hM hg_
     refine g_val ((!((mp (x : Int)).getD false)) && (x != to_)) (gy_gt rfl rfl) (fun hg => x_not (b := false) (gd_of (c := ((!((mp (x : Int)).getD false)) && (x != to_))) hg (B false))) <| g_val (!((mp (x : Int)).getD false)) (gy_f rfl) (fun hg => x_pand (b := x != to_) (r := !false) (gd_of (c := !((mp (x : Int)).getD false)) hg (B (x != to_))) (fun hb => gd_of (c := ((!((mp (x : Int)).getD false)) && (x != to_))) (by first | exact hb | (rw [hb]; rfl) | simp_all) (B (!false))) rfl) <| s_val (x_por (b := (mp (x : Int)).getD false) (r := ((x != to_) && (!false))) rfl rfl (fun hb => gd_of (c := !((mp (x : Int)).getD false)) (by first | exact hb | (rw [hb]; rfl) | simp_all) (B ((x != to_) && (!false))))) <| s_nil ?_
     refine W.cond (((mp (x : Int)).getD false) || ((x != to_) && (!false))) rfl (fun c42z => ?_) (fun c42z => ?_)
     ·replace hM := M.e_t hM c42z
      refine W.exit ?_
      exact ⟨mp, [cBlk b_4 [.slice none 0 0] 34, cMap I B b_s_met mp], (M.e_pure hM).symm, rfl, H.pick [0, 1, 7, 2, 3, 4, 5, 6] (by decide) rfl⟩
     replace hM := M.e_f hM c42z
     refine W.skip <| sQ rfl <| s_val (x_ld (p := Pz b_1) (v := Pz b_s) rfl (ldb_sc Sc160 (H.blk (k := 6) rfl) rfl)) <| sM (I x) rfl <| s_val (x_ld (p := Pz b_3) (v := I to_) rfl (ldb_sc Sc3 (H.blk (k := 4) rfl) rfl)) ?_
     obtain ⟨r44z, hx43z, hM⟩ := M.e_bind hM
     refine s_call cf150 [Pz b_s, I x, I to_] rfl (ih s_web_list_works s_enters mp x to_ (hC_s_web_list_works.app _) hs_s_web_list_works (h_b_s_web.app _) (hf_s_enters.app _) (h_b_s.app _) hx43z _ (St.give (L := [cMap I B b_s_met mp, cBlk b_4 [.slice none 0 0] 34, cBlk nb0_6 [Pz b_s_web] 127, cBlk nb1_7 [I r10] 3, cBlk b_3 [I to_] 3, cBlk b_2 [I from_] 3, cBlk b_1 [Pz b_s] 160, cMk (D21z :: ([]))]) (A := [cMap I B b_s_met mp]) (T := [cBlk b_4 [.slice none 0 0] 34, cBlk nb0_6 [Pz b_s_web] 127, cBlk nb1_7 [I r10] 3, cBlk b_3 [I to_] 3, cBlk b_2 [I from_] 3, cBlk b_1 [Pz b_s] 160, cMk (D21z :: ([]))]) (H.pick [1, 0, 2, 3, 4, 5, 6, 7] (by decide) rfl) rfl)) ?_
     rintro vq w45z ⟨r4, q_b_s_met, u0_8, hr46z, hvq, H2_, hf47z⟩
     subst hr46z
     subst vq
     try dsimp only at hM
     replace H : St w w45z [cOwn (α := Int) 3 u0_8 r4, cMap I B b_s_met q_b_s_met, cBlk b_4 [.slice none 0 0] 34, cBlk nb0_6 [Pz b_s_web] 127, cBlk nb1_7 [I r10] 3, cBlk b_3 [I to_] 3, cBlk b_2 [I from_] 3, cBlk b_1 [Pz b_s] 160, cMk (D21z :: ([]))] R := H.pick [1, 0, 2, 3, 4, 5, 6, 7] (by decide) rfl |>.back H2_ rfl
     clear H2_
     refine sA u0_8 rfl <| s_nil <| sQ rfl <| sM u0_8 rfl <| s_val (x_nenil (α := Int) T34.und rfl rfl (ownSl (H.get (k := 0) rfl)) hf47z) <| s_nil ?_
     refine W.cond (!r4.isEmpty) rfl (fun c48z => ?_) (fun c48z => ?_)
     ·replace hM := M.e_t hM c48z
      refine sQ rfl <| s_val (x_ld (p := Pz b_2) (v := I from_) rfl (ldb_sc Sc3 (H.blk (k := 6) rfl) rfl)) ?_
      refine t_bs (α := Int) T34 [I from_] [(from_ : Int)] H rfl (.cons rfl (Flat.rep_enc _ (from_ : Int)) <| .nil) rfl rfl rfl ?_
      intro v49z w50z H
      refine sM u0_8 rfl ?_
      obtain ⟨sd51z, hM⟩ := M.e_gd hM
      refine t_app (α := Int) (k := 0) (l := [(from_ : Int)]) (l2 := r4) (l' := ([(from_ : Int)]) ++ r4) (vy := u0_8) T34 rfl H rfl rfl rfl (ownSl (H.get (k := 1) rfl)) (ownLe _ (H.get (k := 1) rfl)) (rfl) (by first | omega | (simp only [List.length_nil] at *; omega)) ?_
      intro v52z w53z H
      replace H : St w w53z [cOwn (α := Int) 3 v52z (([(from_ : Int)]) ++ r4), cOwn (α := Int) 3 u0_8 r4, cMap I B b_s_met q_b_s_met, cBlk b_4 [.slice none 0 0] 34, cBlk nb0_6 [Pz b_s_web] 127, cBlk nb1_7 [I r10] 3, cBlk b_3 [I to_] 3, cBlk b_2 [I from_] 3, cBlk b_1 [Pz b_s] 160, cMk (D21z :: ([]))] R := H
      refine t_st (k := 3) (b := b_4) (off := 0) (cs := [.slice none 0 0]) (vs := [v52z]) (cs' := [v52z]) (v := v52z) (L' := [cOwn (α := Int) 3 v52z (([(from_ : Int)]) ++ r4), cOwn (α := Int) 3 u0_8 r4, cMap I B b_s_met q_b_s_met, cBlk b_4 [v52z] 34, cBlk nb0_6 [Pz b_s_web] 127, cBlk nb1_7 [I r10] 3, cBlk b_3 [I to_] 3, cBlk b_2 [I from_] 3, cBlk b_1 [Pz b_s] 160, cMk (D21z :: ([]))]) H rfl rfl rfl Sz34 (Sl.cells (ownSl (H.get (k := 0) rfl))) rfl rfl (by simp only [List.all_cons, List.all_nil, Bool.true_and, Bool.and_true, Sl.oc (ownSl (H.get (k := 0) rfl))]; try rfl) rfl rfl ?_
      intro w54z H
      refine s_nil ?_
      refine W.ret ?_
      exact ⟨(([(from_ : Int)]) ++ r4, q_b_s_met), [cBlk b_4 [v52z] 34, cMap I B b_s_met q_b_s_met, cOwn (α := Int) 3 v52z (([(from_ : Int)]) ++ r4)], (M.e_pure hM).symm, ⟨v52z, rfl⟩, H.pick [3, 2, 0, 9, 4, 5, 6, 7, 8] (by decide) rfl, rfl⟩
     replace hM := M.e_f hM c48z
     refine W.skip ?_
     exact ⟨q_b_s_met, [cBlk b_4 [.slice none 0 0] 34, cMap I B b_s_met q_b_s_met], (M.e_pure hM).symm, rfl, H.pick [2, 1, 8, 3, 4, 5, 6, 7] (by decide) rfl⟩
    replace H : St w w23z (cAll (cObj l20z (.loop r22z) :: [cBlk b_4 [.slice none 0 0] 34, cMap I B b_s_met (updF s_met (from_ : Int) true)]) :: [cMk (D21z :: ([])), cBlk nb0_6 [Pz b_s_web] 127, cBlk nb1_7 [I r10] 3, cBlk b_3 [I to_] 3, cBlk b_2 [I from_] 3, cBlk b_1 [Pz b_s] 160]) R := St.bundleB (A := cObj l20z (.loop r22z) :: [cBlk b_4 [.slice none 0 0] 34, cMap I B b_s_met (updF s_met (from_ : Int) true)]) (T := [cMk (D21z :: ([])), cBlk nb0_6 [Pz b_s_web] 127, cBlk nb1_7 [I r10] 3, cBlk b_3 [I to_] 3, cBlk b_2 [I from_] 3, cBlk b_1 [Pz b_s] 160]) rfl (H.pick [0, 2, 3, 1, 4, 5, 6, 7, 8] (by decide) rfl)
    refine (notes_web_made_1_ok (M.yl (m_notes_search_on_b0 s_web_list_works s_enters from_ to_ (M.fixN m_notes_search_on_F n_))) (.inl (updF s_met (from_ : Int) true)) s_web_list_works r10 hYC ⟨_, rfl, rfl⟩ (hC_s_web_list_works.app _) hs_s_web_list_works (h_b_s_web.app _) (Has.here (k := 1) rfl) (Has.here (k := 2) rfl) hx19z _ (St.give (A := [cAll (cObj l20z (.loop r22z) :: [cBlk b_4 [.slice none 0 0] 34, cMap I B b_s_met (updF s_met (from_ : Int) true)])]) (T := [cMk (D21z :: ([])), cBlk nb0_6 [Pz b_s_web] 127, cBlk nb1_7 [I r10] 3, cBlk b_3 [I to_] 3, cBlk b_2 [I from_] 3, cBlk b_1 [Pz b_s] 160]) H rfl)).mono ?_
    rintro vq w55z ⟨t59z, Ls57z, hq60z, hvq, H2_, hY58z⟩
    subst hq60z
    replace H := H.back H2_ rfl
    clear H2_ hYC
    rcases t59z with mp | ⟨l, mp2⟩
    ·try dsimp only at hM
     obtain ⟨_, rfl, rfl⟩ := hY58z
     refine ⟨_, [cBlk b_4 [.slice none 0 0] 34, cMap I B b_s_met mp, cBlk nb0_6 [Pz b_s_web] 127, cBlk nb1_7 [I r10] 3, cBlk b_3 [I to_] 3, cBlk b_2 [I from_] 3, cBlk b_1 [Pz b_s] 160], H.unbundle.pick [0, 3, 1, 2, 4, 5, 6, 7, 8] (by decide) rfl, hr24z.nb, ?_⟩
     intro w56z H
     rw [hr24z.pd]
     replace H : St w w56z [cMk (D21z :: ([])), cBlk b_4 [.slice none 0 0] 34, cMap I B b_s_met mp, cBlk nb0_6 [Pz b_s_web] 127, cBlk nb1_7 [I r10] 3, cBlk b_3 [I to_] 3, cBlk b_2 [I from_] 3, cBlk b_1 [Pz b_s] 160] R := H
     try simp only []
     refine WD.seq ?_
     refine WD.of ?_
     refine W.region rfl ?_
     refine t_st (k := 1) (b := b_4) (off := 0) (cs := [.slice none 0 0]) (vs := [.slice none 0 0]) (cs' := [.slice none 0 0]) (v := .slice none 0 0) (L' := [cMk (D21z :: ([])), cBlk b_4 [.slice none 0 0] 34, cMap I B b_s_met mp, cBlk nb0_6 [Pz b_s_web] 127, cBlk nb1_7 [I r10] 3, cBlk b_3 [I to_] 3, cBlk b_2 [I from_] 3, cBlk b_1 [Pz b_s] 160]) H rfl rfl rfl Sz34 rfl rfl rfl rfl rfl rfl ?_
     intro w61z H
     refine s_nil ?_
     refine WD.of ?_
     refine W.ret ?_
     refine bodyD_r (H.pick [0, 1, 2, 3, 4, 5, 6, 7] (by decide) rfl) ?_
     intro w62z H
     replace H : St w w62z [cBlk b_4 [.slice none 0 0] 34, cMap I B b_s_met mp, cBlk nb0_6 [Pz b_s_web] 127, cBlk nb1_7 [I r10] 3, cBlk b_3 [I to_] 3, cBlk b_2 [I from_] 3, cBlk b_1 [Pz b_s] 160] R := H
     have hb63z := (H.blk (k := 0) rfl)
     have hr_ := M.e_pure hM
     replace H : St w w62z [cOwn (α := Int) 3 (.slice none 0 0) ([]), cBlk b_4 [.slice none 0 0] 34, cMap I B b_s_met mp, cBlk nb0_6 [Pz b_s_web] 127, cBlk nb1_7 [I r10] 3, cBlk b_3 [I to_] 3, cBlk b_2 [I from_] 3, cBlk b_1 [Pz b_s] 160] R := H.nilOwn (α := Int) 3
     exact ⟨_, (resE_of1 (v := .slice none 0 0) rfl (.cell (v := .slice none 0 0) rfl (run_loadVar_sc Sc34 hb63z rfl) <| .nil)), ⟨([]), mp, (.slice none 0 0), hr_, rfl, (H.pick [0, 2] (by decide) rfl), (fun _ => rfl)⟩⟩
    try dsimp only at hM
    obtain ⟨_, rfl, v_o_9, rfl⟩ := hY58z
    refine ⟨_, [cBlk b_4 [v_o_9] 34, cMap I B b_s_met mp2, cOwn (α := Int) 3 v_o_9 l, cBlk nb0_6 [Pz b_s_web] 127, cBlk nb1_7 [I r10] 3, cBlk b_3 [I to_] 3, cBlk b_2 [I from_] 3, cBlk b_1 [Pz b_s] 160], H.unbundle.pick [0, 4, 1, 2, 3, 5, 6, 7, 8, 9] (by decide) rfl, nofun, ?_⟩
    intro w56z H
    show WD _ _ _ (.ret) _ _ _
    refine WD.of ?_
    refine W.ret ?_
    replace H : St w w56z [cMk (D21z :: ([])), cBlk b_4 [v_o_9] 34, cMap I B b_s_met mp2, cOwn (α := Int) 3 v_o_9 l, cBlk nb0_6 [Pz b_s_web] 127, cBlk nb1_7 [I r10] 3, cBlk b_3 [I to_] 3, cBlk b_2 [I from_] 3, cBlk b_1 [Pz b_s] 160] R := H
    refine bodyD_r (H.pick [0, 1, 2, 3, 4, 5, 6, 7, 8] (by decide) rfl) ?_
    intro w64z H
    replace H : St w w64z [cBlk b_4 [v_o_9] 34, cMap I B b_s_met mp2, cOwn (α := Int) 3 v_o_9 l, cBlk nb0_6 [Pz b_s_web] 127, cBlk nb1_7 [I r10] 3, cBlk b_3 [I to_] 3, cBlk b_2 [I from_] 3, cBlk b_1 [Pz b_s] 160] R := H
    have hb65z := (H.blk (k := 0) rfl)
    obtain ⟨sd66z, hM⟩ := M.e_grd hM
    simp only [decide_eq_true_eq] at sd66z
    have hr_ := M.e_pure hM
    exact ⟨_, (resE_of1 (v := v_o_9) rfl (.cell (v := v_o_9) rfl (run_loadVar_sc Sc34 hb65z rfl) <| .nil)), ⟨l, mp2, v_o_9, hr_, rfl, (H.pick [2, 1] (by decide) rfl), (fun h_ => by rw [h_] at sd66z; simp at sd66z)⟩⟩
theorem notes_search_on_ok {R : List Chunk} {b_s : Nat} {b_s_web : Nat} {C_s_web_list_works : Cells} {v_s_web_list_works : Value} {v_s_enters : Value} {b_s_met : Nat} (s_web_list_works : List Work) (s_enters : Int → M Bool) (s_met : Int → Option Bool) (from_ : Int) (to_ : Int) (hC_s_web_list_works : Reads R C_s_web_list_works) (hs_s_web_list_works : Sl C_s_web_list_works v_s_web_list_works s_web_list_works) (h_b_s_web : Has R (cBlk b_s_web [v_s_web_list_works] 187)) (hf_s_enters : FnM Try.prog R v_s_enters s_enters) (h_b_s : Has R (cBlk b_s [Pz b_s_web, v_s_enters, .map (some b_s_met)] 211)) {r : ((List Int) × (Int → Option Bool))} (hM : (m_notes_search_on s_web_list_works s_enters s_met from_ to_).Ends r) (w : World) (H : St w w [cMap I B b_s_met s_met] R) : Ret Try.prog 150 #[Pz b_s, I from_, I to_] w fun v w' => ∃ (y0 : List Int) (y1 : Int → Option Bool) (u0 : Value), (y0, y1) = r ∧ v = u0 ∧ St w w' [cOwn (α := Int) 3 u0 y0, cMap I B b_s_met y1] R ∧ (y0 = [] → u0 = .slice none 0 0) := by
  obtain ⟨n_, hM⟩ := M.e_fix hM
  exact notes_search_on_okN n_ s_web_list_works s_enters s_met from_ to_ hC_s_web_list_works hs_s_web_list_works h_b_s_web hf_s_enters h_b_s hM w H

def m_notes_search_line (s_web_list_works : List Work) (s_enters : Int → M Bool) (s_met : Int → Option Bool) (from_ : Int) (to_ : Int) : M ((List Int) × (Int → Option Bool)) :=
  M.bind (m_notes_search_on s_web_list_works s_enters (fun _ => none) from_ to_) fun (r2, q_b_s_met) =>
  M.pure (r2, q_b_s_met)
theorem notes_search_line_ok {R : List Chunk} {b_s : Nat} {b_s_web : Nat} {C_s_web_list_works : Cells} {v_s_web_list_works : Value} {v_s_enters : Value} {b_s_met : Nat} (s_web_list_works : List Work) (s_enters : Int → M Bool) (s_met : Int → Option Bool) (from_ : Int) (to_ : Int) (hC_s_web_list_works : Reads R C_s_web_list_works) (hs_s_web_list_works : Sl C_s_web_list_works v_s_web_list_works s_web_list_works) (h_b_s_web : Has R (cBlk b_s_web [v_s_web_list_works] 187)) (hf_s_enters : FnM Try.prog R v_s_enters s_enters) (h_b_s : Has R (cBlk b_s [Pz b_s_web, v_s_enters, .map (some b_s_met)] 211)) {r : ((List Int) × (Int → Option Bool))} (hM : (m_notes_search_line s_web_list_works s_enters s_met from_ to_).Ends r) (w : World) (H : St w w [cMap I B b_s_met s_met] R) : Ret Try.prog 110 #[Pz b_s, I from_, I to_] w fun v w' => ∃ (y0 : List Int) (y1 : Int → Option Bool) (u0 : Value), (y0, y1) = r ∧ v = u0 ∧ St w w' [cOwn (α := Int) 3 u0 y0, cMap I B b_s_met y1] R ∧ (y0 = [] → u0 = .slice none 0 0) := by
 refine ret_of_W Try.func110 rfl rfl rfl ?_
 refine sQ rfl <| sA (.slice none 0 0) rfl <| s_nil <| sQ rfl <| sM (Pz b_s) rfl <| s_val (x_nc (a := ⟨b_s, 0, none⟩) rfl) <| s_val (x_fa (a := Pz b_s) (v := Oz b_s 2) rfl (fa_blk (o := 0) Fd211_2 Sz178)) <| s_val (x_ld (p := Oz b_s 2) (v := .map (some b_s_met)) rfl (ldb_sc Sc178 (h_b_s.blk H) rfl)) ?_
 refine t_clearm (i := 0) (kenc := I) (venc := B) (f := s_met) (L' := [cMap I B b_s_met (fun _ => none)]) (by rw [show (#[178] : Array TypeId)[0]?.bind Try.prog.underlying = Try.prog.underlying 178 from rfl, Try.underlying178]; rfl) H rfl rfl rfl ?_
 intro w1z H
 refine s_nil <| sQ rfl <| sM (Pz b_s) rfl <| sM (I from_) rfl <| sM (I to_) rfl ?_
 obtain ⟨r3z, hx2z, hM⟩ := M.e_bind hM
 refine s_call cf150 [Pz b_s, I from_, I to_] rfl (notes_search_on_ok s_web_list_works s_enters (fun _ => none) from_ to_ (hC_s_web_list_works.app _) hs_s_web_list_works (h_b_s_web.app _) (hf_s_enters.app _) (h_b_s.app _) hx2z _ (St.give (T := []) H rfl)) ?_
 rintro vq w4z ⟨r2, q_b_s_met, u0_1, hr5z, hvq, H2_, hf6z⟩
 subst hr5z
 subst vq
 try dsimp only at hM
 replace H : St w w4z [cOwn (α := Int) 3 u0_1 r2, cMap I B b_s_met q_b_s_met] R := H.back H2_ rfl
 clear H2_
 refine sA u0_1 rfl <| s_nil ?_
 refine W.ret ?_
 have hr_ := M.e_pure hM
 exact ⟨_, resE_tmp rfl, ⟨r2, q_b_s_met, u0_1, hr_, rfl, H, hf6z⟩⟩

def m_notes_Line (w_ : List Work) (from_ : Int) (to_ : Int) : M ((List Int) × Int) :=
  bif (openedE w_ == 0) then (
  bif (0 : Int) != 0 then (M.fail) else (bif ((!(inB from_ 0 ((w_.length : Int) - 1))) || (!(inB to_ 0 ((w_.length : Int) - 1)))) then (
  M.pure (([]), 2))
  else (
  M.bind (m_notes_web_search w_ (fun xqz => m_notes_Line_1 xqz)) fun r2 =>
  M.bind (m_notes_search_line w_ (fun xqz => m_notes_Line_1 xqz) r2 from_ to_) fun (r3, q_b_s_met) =>
  bif !r3.isEmpty then (
  M.pure (r3, 0))
  else (
  M.pure (([]), 5)))))
  else (
  bif (openedE w_) != 0 then (
  M.pure (([]), (openedE w_)))
  else (
  bif ((!(inB from_ 0 ((w_.length : Int) - 1))) || (!(inB to_ 0 ((w_.length : Int) - 1)))) then (
  M.pure (([]), 2))
  else (
  M.fail)))
theorem notes_Line_ok {R : List Chunk} {C_w_ : Cells} {v_w_ : Value} (w_ : List Work) (from_ : Int) (to_ : Int) (hC_w_ : Reads R C_w_) (hs_w_ : Sl C_w_ v_w_ w_) {r : ((List Int) × Int)} (hM : (m_notes_Line w_ from_ to_).Ends r) (w : World) (H : St w w [] R) : Ret Try.prog 53 #[v_w_, I from_, I to_] w fun v w' => ∃ (y0 : List Int) (y1 : Int) (u0 : Value), (y0, y1) = r ∧ v = .tuple #[u0, I y1] ∧ St w w' [cOwn (α := Int) 3 u0 y0] R := by
 refine ret_of_W Try.func53 rfl rfl rfl ?_
 refine sQ rfl <| sA (.slice none 0 0) rfl <| sA (I 0) rfl <| s_nil <| sQ rfl <| sM v_w_ rfl ?_
 refine s_call cf81 [v_w_] rfl (opened_any _ (hs_w_.mono (hC_w_.at H))) ?_
 rintro _ w1z (⟨he_, rfl, hx_⟩ | ⟨he_, b_1, u2z, rfl, hn_, hs3z⟩)
 ·replace hM := M.e_f hM (by simpa using he_)
  replace H : St w w1z [] R := H.ext hx_
  clear hx_
  refine sM (.tuple #[.pointer none, .slice none 0 0, I (openedE w_)]) rfl <| sX [.pointer none, .slice none 0 0, I (openedE w_)] (.pointer none) rfl rfl <| sX [.pointer none, .slice none 0 0, I (openedE w_)] (.slice none 0 0) rfl rfl <| sX [.pointer none, .slice none 0 0, I (openedE w_)] (I (openedE w_)) rfl rfl <| sA (.pointer none) rfl <| sA (.slice none 0 0) rfl <| sA (I (openedE w_)) rfl <| s_nil <| W.seq <| W.block <| sQ rfl ?_
  refine sM (I (openedE w_)) rfl <| sC (openedE w_) 0 ((openedE w_) != 0) rfl rfl rfl <| sA (B ((openedE w_) != 0)) rfl <| s_nil ?_
  refine W.cond ((openedE w_) != 0) rfl (fun c4z => ?_) (fun c4z => ?_)
  ·replace hM := M.e_t hM c4z
   simp only [qz1, qz2, qz3, qz4, qz5, qz6, ne_eq, qz7] at c4z
   refine sQ rfl <| sM (I (openedE w_)) rfl <| sA (.slice none 0 0) rfl <| sA (I (openedE w_)) rfl <| s_nil ?_
   refine W.ret ?_
   have hr_ := M.e_pure hM
   replace H : St w w1z [cOwn (α := Int) 3 (.slice none 0 0) ([])] R := H.nilOwn (α := Int) 3
   exact ⟨_, resE_tmp2 rfl, ⟨([]), (openedE w_), (.slice none 0 0), hr_, rfl, H⟩⟩
  replace hM := M.e_f hM c4z
  simp only [qz1, qz2, qz3, qz4, qz5, qz6, ne_eq, qz7] at c4z
  refine sQ rfl <| sM (I from_) rfl <| sM v_w_ rfl ?_
  have hl5z := (hs_w_).len_le
  refine s_val (x_lenS T22.und rfl hs_w_) <| sR (w_.length : Int) 1 ((w_.length : Int) - 1) rfl rfl rfl (by omega) ?_
  refine s_call cf84 [I from_, I 0, I ((w_.length : Int) - 1)] rfl (in_any from_ 0 ((w_.length : Int) - 1) _) ?_
  rintro _ w6z ⟨rfl, hx_⟩
  replace H : St w w6z [] R := H.ext hx_
  clear hx_
  refine s_val (x_not (b := inB from_ 0 ((w_.length : Int) - 1)) rfl) <| sM (B (!(inB from_ 0 ((w_.length : Int) - 1)))) rfl <| g_val (!(!(inB from_ 0 ((w_.length : Int) - 1)))) (gy_f rfl) (fun hg => x_mv (v := I to_) rfl) <| g_val (!(!(inB from_ 0 ((w_.length : Int) - 1)))) (gy_f rfl) (fun hg => x_mv (v := v_w_) rfl) <| g_val (!(!(inB from_ 0 ((w_.length : Int) - 1)))) (gy_f rfl) (fun hg => x_lenS T22.und (gd_of (c := !(!(inB from_ 0 ((w_.length : Int) - 1)))) hg (v_w_)) hs_w_) <| g_val (!(!(inB from_ 0 ((w_.length : Int) - 1)))) (gy_f rfl) (fun hg => x_ari (a := (w_.length : Int)) (b := 1) (r := (w_.length : Int) - 1) (gd_of (c := !(!(inB from_ 0 ((w_.length : Int) - 1)))) hg (I (w_.length : Int))) rfl rfl (by first | omega | (have hx_ := hg; simp at hx_; omega))) ?_
  refine t_gcall (!(!(inB from_ 0 ((w_.length : Int) - 1)))) (gy_f rfl) cf84 (B (inB to_ 0 ((w_.length : Int) - 1))) (fun _ => [I to_, I 0, I ((w_.length : Int) - 1)]) (fun hg => lst3 (gd_of (c := !(!(inB from_ 0 ((w_.length : Int) - 1)))) hg (I to_)) rfl (gd_of (c := !(!(inB from_ 0 ((w_.length : Int) - 1)))) hg (I ((w_.length : Int) - 1)))) H (fun hg => Ret.mono (in_any to_ 0 ((w_.length : Int) - 1) _) fun v_ w_ ⟨hv_, hx_⟩ => ⟨hv_, H.ext hx_⟩) ?_
  intro w8z H
  refine g_val (!(!(inB from_ 0 ((w_.length : Int) - 1)))) (gy_f rfl) (fun hg => x_not (b := inB to_ 0 ((w_.length : Int) - 1)) (gd_of (c := !(!(inB from_ 0 ((w_.length : Int) - 1)))) hg (B (inB to_ 0 ((w_.length : Int) - 1))))) <| s_val (x_por (b := !(inB from_ 0 ((w_.length : Int) - 1))) (r := !(inB to_ 0 ((w_.length : Int) - 1))) rfl rfl (fun hb => gd_of (c := !(!(inB from_ 0 ((w_.length : Int) - 1)))) (by first | exact hb | (rw [hb]; rfl) | simp_all) (B (!(inB to_ 0 ((w_.length : Int) - 1)))))) <| sA (B ((!(inB from_ 0 ((w_.length : Int) - 1))) || (!(inB to_ 0 ((w_.length : Int) - 1))))) rfl <| s_nil ?_
  refine W.cond ((!(inB from_ 0 ((w_.length : Int) - 1))) || (!(inB to_ 0 ((w_.length : Int) - 1)))) rfl (fun c9z => ?_) (fun c9z => ?_)
  ·replace hM := M.e_t hM c9z
   refine sQ rfl <| sA (.slice none 0 0) rfl <| sA (I 2) rfl <| s_nil ?_
   refine W.ret ?_
   have hr_ := M.e_pure hM
   replace H : St w w8z [cOwn (α := Int) 3 (.slice none 0 0) ([])] R := H.nilOwn (α := Int) 3
   exact ⟨_, resE_tmp2 rfl, ⟨([]), 2, (.slice none 0 0), hr_, rfl, H⟩⟩
  replace hM := M.e_f hM c9z
  refine W.skip <| sQ rfl <| sM (.pointer none) rfl ?_
  exact (M.e_fail hM).elim
 replace hM := M.e_t hM (by simpa using he_)
 obtain ⟨Bs_2, H2_, hs3z, hb_b_1⟩ := H.freshNB hn_ hs3z
 replace H : St w w1z [cRo Bs_2] R := H2_
 clear H2_ hn_
 have hl_hs3z := hs3z.len_le
 refine sM (.tuple #[Pz b_1, u2z, I 0]) rfl <| sX [Pz b_1, u2z, I 0] (Pz b_1) rfl rfl <| sX [Pz b_1, u2z, I 0] u2z rfl rfl <| sX [Pz b_1, u2z, I 0] (I 0) rfl rfl <| sA (Pz b_1) rfl <| sA u2z rfl <| sA (I 0) rfl <| s_nil <| W.seq <| W.block <| sQ rfl ?_
 refine sM (I 0) rfl <| sC 0 0 ((0 : Int) != 0) rfl rfl rfl <| sA (B ((0 : Int) != 0)) rfl <| s_nil ?_
 refine W.cond ((0 : Int) != 0) rfl (fun c10z => ?_) (fun c10z => ?_)
 ·skip
  exact absurd c10z (by decide)
 skip
 replace hM := M.e_f hM c10z
 refine sQ rfl <| sM (I from_) rfl <| sM v_w_ rfl ?_
 have hl11z := (hs_w_).len_le
 refine s_val (x_lenS T22.und rfl hs_w_) <| sR (w_.length : Int) 1 ((w_.length : Int) - 1) rfl rfl rfl (by omega) ?_
 refine s_call cf84 [I from_, I 0, I ((w_.length : Int) - 1)] rfl (in_any from_ 0 ((w_.length : Int) - 1) _) ?_
 rintro _ w12z ⟨rfl, hx_⟩
 replace H : St w w12z [cRo Bs_2] R := H.ext hx_
 clear hx_
 refine s_val (x_not (b := inB from_ 0 ((w_.length : Int) - 1)) rfl) <| sM (B (!(inB from_ 0 ((w_.length : Int) - 1)))) rfl <| g_val (!(!(inB from_ 0 ((w_.length : Int) - 1)))) (gy_f rfl) (fun hg => x_mv (v := I to_) rfl) <| g_val (!(!(inB from_ 0 ((w_.length : Int) - 1)))) (gy_f rfl) (fun hg => x_mv (v := v_w_) rfl) <| g_val (!(!(inB from_ 0 ((w_.length : Int) - 1)))) (gy_f rfl) (fun hg => x_lenS T22.und (gd_of (c := !(!(inB from_ 0 ((w_.length : Int) - 1)))) hg (v_w_)) hs_w_) <| g_val (!(!(inB from_ 0 ((w_.length : Int) - 1)))) (gy_f rfl) (fun hg => x_ari (a := (w_.length : Int)) (b := 1) (r := (w_.length : Int) - 1) (gd_of (c := !(!(inB from_ 0 ((w_.length : Int) - 1)))) hg (I (w_.length : Int))) rfl rfl (by first | omega | (have hx_ := hg; simp at hx_; omega))) ?_
 refine t_gcall (!(!(inB from_ 0 ((w_.length : Int) - 1)))) (gy_f rfl) cf84 (B (inB to_ 0 ((w_.length : Int) - 1))) (fun _ => [I to_, I 0, I ((w_.length : Int) - 1)]) (fun hg => lst3 (gd_of (c := !(!(inB from_ 0 ((w_.length : Int) - 1)))) hg (I to_)) rfl (gd_of (c := !(!(inB from_ 0 ((w_.length : Int) - 1)))) hg (I ((w_.length : Int) - 1)))) H (fun hg => Ret.mono (in_any to_ 0 ((w_.length : Int) - 1) _) fun v_ w_ ⟨hv_, hx_⟩ => ⟨hv_, H.ext hx_⟩) ?_
 intro w14z H
 refine g_val (!(!(inB from_ 0 ((w_.length : Int) - 1)))) (gy_f rfl) (fun hg => x_not (b := inB to_ 0 ((w_.length : Int) - 1)) (gd_of (c := !(!(inB from_ 0 ((w_.length : Int) - 1)))) hg (B (inB to_ 0 ((w_.length : Int) - 1))))) <| s_val (x_por (b := !(inB from_ 0 ((w_.length : Int) - 1))) (r := !(inB to_ 0 ((w_.length : Int) - 1))) rfl rfl (fun hb => gd_of (c := !(!(inB from_ 0 ((w_.length : Int) - 1)))) (by first | exact hb | (rw [hb]; rfl) | simp_all) (B (!(inB to_ 0 ((w_.length : Int) - 1)))))) <| sA (B ((!(inB from_ 0 ((w_.length : Int) - 1))) || (!(inB to_ 0 ((w_.length : Int) - 1))))) rfl <| s_nil ?_
 refine W.cond ((!(inB from_ 0 ((w_.length : Int) - 1))) || (!(inB to_ 0 ((w_.length : Int) - 1)))) rfl (fun c15z => ?_) (fun c15z => ?_)
 ·replace hM := M.e_t hM c15z
  refine sQ rfl <| sA (.slice none 0 0) rfl <| sA (I 2) rfl <| s_nil ?_
  refine W.ret ?_
  have hr_ := M.e_pure hM
  replace H : St w w14z [cOwn (α := Int) 3 (.slice none 0 0) ([]), cRo Bs_2] R := H.nilOwn (α := Int) 3
  exact ⟨_, resE_tmp2 rfl, ⟨([]), 2, (.slice none 0 0), hr_, rfl, (H.pick [0] (by decide) rfl)⟩⟩
 replace hM := M.e_f hM c15z
 refine W.skip <| sQ rfl <| sM (Pz b_1) rfl ?_
 obtain ⟨r17z, hx16z, hM⟩ := M.e_bind hM
 refine s_call cf108 [Pz b_1, .func (.func 109) #[] #[]] rfl (notes_web_search_ok w_ (fun xqz => m_notes_Line_1 xqz) (hC_w_.app _) hs_w_ (Has.ro (k := 0) rfl hb_b_1) ⟨109, [], rfl, cf109, fun wqz Lqz Cqz vqz xqz bqz hsqz hCqz hAqz hpqz => by obtain rfl := Arg.int hAqz; exact (notes_Line_1_ok xqz hpqz wqz (St.refl hsqz)).mono fun vqz wqz ⟨yqz, hrqz, hvqz, Hqz⟩ => by subst hrqz; exact ⟨hvqz, Hqz⟩⟩ hx16z _ (St.give (T := [cRo Bs_2]) H rfl)) ?_
 rintro vq w18z ⟨r2, nb0_3, nb1_4, hr19z, hvq, H2_⟩
 subst hr19z
 subst vq
 try dsimp only at hM
 replace H : St w w18z [cBlk nb0_3 [Pz b_1, .func (.func 109) #[] #[], .map (some nb1_4)] 211, cMap I B nb1_4 r2, cRo Bs_2] R := H.back H2_ rfl
 clear H2_
 refine sA (Pz nb0_3) rfl <| s_nil <| W.seq <| sQ rfl <| sM (Pz nb0_3) rfl <| sM (I from_) rfl <| sM (I to_) rfl ?_
 obtain ⟨r21z, hx20z, hM⟩ := M.e_bind hM
 refine s_call cf110 [Pz nb0_3, I from_, I to_] rfl (notes_search_line_ok w_ (fun xqz => m_notes_Line_1 xqz) r2 from_ to_ (hC_w_.app _) hs_w_ (Has.ro (k := 1) rfl hb_b_1) ⟨109, [], rfl, cf109, fun wqz Lqz Cqz vqz xqz bqz hsqz hCqz hAqz hpqz => by obtain rfl := Arg.int hAqz; exact (notes_Line_1_ok xqz hpqz wqz (St.refl hsqz)).mono fun vqz wqz ⟨yqz, hrqz, hvqz, Hqz⟩ => by subst hrqz; exact ⟨hvqz, Hqz⟩⟩ (Has.here (k := 0) rfl) hx20z _ (St.give (L := [cMap I B nb1_4 r2, cBlk nb0_3 [Pz b_1, .func (.func 109) #[] #[], .map (some nb1_4)] 211, cRo Bs_2]) (A := [cMap I B nb1_4 r2]) (T := [cBlk nb0_3 [Pz b_1, .func (.func 109) #[] #[], .map (some nb1_4)] 211, cRo Bs_2]) (H.pick [1, 0, 2] (by decide) rfl) rfl)) ?_
 rintro vq w22z ⟨r3, q_b_s_met, u0_5, hr23z, hvq, H2_, hf24z⟩
 subst hr23z
 subst vq
 try dsimp only at hM
 replace H : St w w22z [cOwn (α := Int) 3 u0_5 r3, cMap I B nb1_4 q_b_s_met, cBlk nb0_3 [Pz b_1, .func (.func 109) #[] #[], .map (some nb1_4)] 211, cRo Bs_2] R := H.pick [1, 0, 2] (by decide) rfl |>.back H2_ rfl
 clear H2_
 refine sA u0_5 rfl <| s_nil <| sQ rfl <| sM u0_5 rfl <| s_val (x_nenil (α := Int) T34.und rfl rfl (ownSl (H.get (k := 0) rfl)) hf24z) <| s_nil ?_
 refine W.cond (!r3.isEmpty) rfl (fun c25z => ?_) (fun c25z => ?_)
 ·replace hM := M.e_t hM c25z
  refine sQ rfl <| sM u0_5 rfl <| sA u0_5 rfl <| sA (I 0) rfl <| s_nil ?_
  refine W.ret ?_
  have hr_ := M.e_pure hM
  exact ⟨_, resE_tmp2 rfl, ⟨r3, 0, u0_5, hr_, rfl, (H.pick [0] (by decide) rfl)⟩⟩
 replace hM := M.e_f hM c25z
 refine W.skip <| sQ rfl <| sA (.slice none 0 0) rfl <| sA (I 5) rfl <| s_nil ?_
 refine W.ret ?_
 have hr_ := M.e_pure hM
 replace H : St w w22z [cOwn (α := Int) 3 (.slice none 0 0) ([]), cOwn (α := Int) 3 u0_5 r3, cMap I B nb1_4 q_b_s_met, cBlk nb0_3 [Pz b_1, .func (.func 109) #[] #[], .map (some nb1_4)] 211, cRo Bs_2] R := H.nilOwn (α := Int) 3
 exact ⟨_, resE_tmp2 rfl, ⟨([]), 5, (.slice none 0 0), hr_, rfl, (H.pick [0] (by decide) rfl)⟩⟩

end Go.Proofs.Ytndobgodeicloaa
end
namespace Go.Nm
variable {ws : List Work}
/-- Was a work met? -/
def mt (m : Int → Option Bool) (x : Int) : Prop := (m x).getD false = true
theorem mt_upd (m : Int → Option Bool) (x y : Int) : mt (updF m x true) y ↔ y = x ∨ mt m y := by
  unfold mt updF
  by_cases e : y = x
  · rw [if_pos e]; exact ⟨fun _ => .inl e, fun _ => rfl⟩
  · rw [if_neg e]; exact ⟨fun h => .inr h, fun h => h.elim (fun h => absurd h e) id⟩
/-- Is a work made of another one? -/
def Succ (ws : List Work) (x y : Int) : Prop := 0 ≤ y ∧ y < (ws.length : Int) ∧ x ∈ (ws.getD y.toNat default).of
/-- What a search that finds nothing leaves. -/
structure Srch (ws : List Work) (m m' : Int → Option Bool) (to_ : Int) : Prop where
  up : ∀ x, mt m x → mt m' x
  cl : ∀ x, mt m' x → mt m x ∨ ∀ y, Succ ws x y → mt m' y
  no : ¬ mt m to_ → ¬ mt m' to_
theorem Srch.refl (m : Int → Option Bool) (to_ : Int) : Srch ws m m to_ := ⟨fun _ h => h, fun _ h => .inl h, fun h => h⟩
theorem Srch.trans {a b c : Int → Option Bool} {to_ : Int} (h : Srch ws a b to_) (k : Srch ws b c to_) : Srch ws a c to_ :=
  ⟨fun x hx => k.up x (h.up x hx), fun x hx => by
    rcases k.cl x hx with h1 | h1
    · rcases h.cl x h1 with h2 | h2
      · exact .inl h2
      · exact .inr fun y hy => k.up y (h2 y hy)
    · exact .inr h1, fun hn => k.no (h.no hn)⟩
/-- A line from one work to another one. -/
structure LineOk (ws : List Work) (a b : Int) (l : List Int) : Prop where
  line : lineB ws l = true
  rng : ∀ x ∈ l, 0 ≤ x ∧ x < (ws.length : Int)
  first : ∃ r, l = a :: r
  last : ∃ r, l = r ++ [b]
  len : (l.length : Int) ≤ ws.length - a
theorem LineOk.one {a : Int} (h0 : 0 ≤ a) (h1 : a < ws.length) : LineOk ws a a [a] := ⟨rfl, fun x hx => by rw [List.mem_singleton.1 hx]; exact ⟨h0, h1⟩, ⟨[], rfl⟩, ⟨[], rfl⟩, by simp; omega⟩
theorem LineOk.cons {a x b : Int} {l : List Int} (h0 : 0 ≤ a) (hs : Succ ws a x) (hx : a < x) (h : LineOk ws x b l) : LineOk ws a b ([a] ++ l) := by
  obtain ⟨r, hr⟩ := h.first
  obtain ⟨q, hq⟩ := h.last
  refine ⟨?_, fun y hy => ?_, ⟨l, rfl⟩, ⟨a :: q, by rw [hq]; rfl⟩, ?_⟩
  · have := h.line
    rw [hr] at this ⊢
    show ((ws.getD x.toNat default).of.contains a && lineB ws (x :: r)) = true
    rw [this, Bool.and_true, List.contains_iff_mem]
    exact hs.2.2
  · rcases List.mem_append.1 hy with hy | hy
    · rw [List.mem_singleton.1 hy]; exact ⟨h0, by have := hs.2.1; omega⟩
    · exact h.rng y hy
  · have := h.len
    simp only [List.length_append, List.length_cons, List.length_nil]
    omega
end Go.Nm
namespace Go.Proofs.Ytndobgodeicloaa
open Go Go.Nm
variable {ws : List Work}
theorem made_out' {T : Type} {y : T → Int → M (Bool × T)} {x : Int} (J : Nat → T → Prop) (Q : T → Prop)
    (step : ∀ i t, i < ws.length → J i t → x ∈ (ws.getD i default).of → (y t (i : Int)).Out (fun r => (r.1 = true ∧ J (i + 1) r.2) ∨ (r.1 = false ∧ Q r.2)))
    (skip : ∀ i t, i < ws.length → J i t → x ∉ (ws.getD i default).of → J (i + 1) t) {t0 : T} (h0 : J 0 t0) : (m_notes_web_made_1 y t0 ws x).Out (fun t => J ws.length t ∨ Q t) := by
  unfold m_notes_web_made_1
  refine M.o_bind (P := fun r => match r with | .inl t => Q t | .inr t => J ws.length t) ?_ ?_
  · refine M.o_for ws.length (fun i s => s.1 = i ∧ J i s.2) ?_ ?_ (s := (0, t0)) ⟨rfl, h0⟩
    · rintro i ⟨j, t⟩ hi ⟨rfl, hj⟩
      dsimp only at hi hj ⊢
      simp only [m_notes_web_made_1_b0]
      have ho := webOf_ends (ws := ws) (i := (j : Int)) (by omega) (by omega) x
      rw [Int.toNat_natCast] at ho
      refine M.o_t (by simpa using hi) (M.o_bindE ho ?_)
      cases hc : (ws.getD j default).of.contains x with
      | true =>
        rw [List.contains_iff_mem] at hc
        refine M.o_t rfl (M.o_bind (step j t hi hj hc) ?_)
        rintro ⟨go, t'⟩ hr
        dsimp only at hr ⊢
        rcases hr with ⟨rfl, hr⟩ | ⟨rfl, hr⟩
        · exact M.o_f rfl (M.o_pure ⟨rfl, hr⟩)
        · exact M.o_t rfl (M.o_pure hr)
      | false =>
        have hn : x ∉ (ws.getD j default).of := fun h => by rw [← List.contains_iff_mem] at h; rw [h] at hc; cases hc
        exact M.o_f rfl (M.o_f rfl (M.o_pure ⟨rfl, skip j t hi hj hn⟩))
    · rintro ⟨j, t⟩ ⟨rfl, hj⟩
      dsimp only at hj ⊢
      simp only [m_notes_web_made_1_b0]
      exact M.o_f (by simp) (M.o_pure hj)
  · rintro (t | t) h
    · exact M.o_pure (.inr h)
    · exact M.o_pure (.inl h)
theorem wy_closed {m : Int → Option Bool} (hc : ∀ x, mt m x → ∀ y, Succ ws x y → mt m y) {a b : Nat} (w : Wy ws a b) (ha : mt m (a : Int)) : mt m (b : Int) := by
  induction w with
  | one h hb => exact hc _ ha _ ⟨by omega, by omega, by rw [Int.toNat_natCast]; exact h⟩
  | more w h hb ih => exact hc _ ih _ ⟨by omega, by omega, by rw [Int.toNat_natCast]; exact h⟩
end Go.Proofs.Ytndobgodeicloaa
namespace Go.Nm
variable {ws : List Work}
/-- A line from one work to another one. -/
structure LineG (ws : List Work) (a b : Int) (l : List Int) : Prop where
  line : lineB ws l = true
  rng : ∀ x ∈ l, 0 ≤ x ∧ x < (ws.length : Int)
  first : ∃ r, l = a :: r
  last : ∃ r, l = r ++ [b]
  len : l.length + posO ws a ≤ ws.length
theorem LineG.one (hO : openedE ws = 0) {a : Int} (h0 : 0 ≤ a) (h1 : a < ws.length) : LineG ws a a [a] :=
  ⟨rfl, fun x hx => by rw [List.mem_singleton.1 hx]; exact ⟨h0, h1⟩, ⟨[], rfl⟩, ⟨[], rfl⟩, by have := posO_le (order_all hO h0 h1); simp; omega⟩
theorem LineG.cons {a x b : Int} {l : List Int} (h0 : 0 ≤ a) (h1 : a < ws.length) (hs : Succ ws a x) (hx : posO ws a < posO ws x) (h : LineG ws x b l) : LineG ws a b ([a] ++ l) := by
  obtain ⟨r, hr⟩ := h.first
  obtain ⟨q, hq⟩ := h.last
  refine ⟨?_, fun y hy => ?_, ⟨l, rfl⟩, ⟨a :: q, by rw [hq]; rfl⟩, ?_⟩
  · have := h.line
    rw [hr] at this ⊢
    show ((ws.getD x.toNat default).of.contains a && lineB ws (x :: r)) = true
    rw [this, Bool.and_true, List.contains_iff_mem]
    exact hs.2.2
  · rcases List.mem_append.1 hy with hy | hy
    · rw [List.mem_singleton.1 hy]; exact ⟨h0, h1⟩
    · exact h.rng y hy
  · have := h.len
    simp only [List.length_append, List.length_cons, List.length_nil]
    omega
end Go.Nm
namespace Go.Proofs.Ytndobgodeicloaa
open Go Go.Nm
variable {ws : List Work}
/-- What a search ends in. -/
def OnG (ws : List Work) (m : Int → Option Bool) (a to_ : Int) (r : List Int × (Int → Option Bool)) : Prop :=
  (r.1 ≠ [] ∧ LineG ws a to_ r.1) ∨ (r.1 = [] ∧ Srch ws m r.2 to_ ∧ mt r.2 a)
theorem on_outG (hO : openedE ws = 0) {to_ : Int} : ∀ (d : Nat) (a : Int) (m : Int → Option Bool), 0 ≤ a → a < ws.length → ws.length - posO ws a ≤ d →
    (m_notes_search_on ws (fun x => m_notes_Line_1 x) m a to_).Out (OnG ws m a to_) := by
  intro d
  induction d with
  | zero => intro a m h0 h1 hd; have := posO_le (order_all hO h0 h1); omega
  | succ d ih =>
    intro a m h0 h1 hd
    have h1' := h1
    have hlen := right_len (opened_right hO)
    have hpa := posO_le (order_all hO h0 h1)
    suffices h : (m_notes_search_on_F (M.fix m_notes_search_on_F m_notes_search_on_mon) (ws, (fun x => m_notes_Line_1 x), m, a, to_)).Out (OnG ws m a to_) by
      obtain ⟨r, h2, h3⟩ := h
      exact ⟨r, M.i_fix h2, h3⟩
    simp only [m_notes_search_on_F]
    refine M.o_if (fun hb => ?_) (fun hb => ?_)
    · have e : a = to_ := by simpa using hb
      subst e
      exact M.o_pure (.inl ⟨by simp, LineG.one hO h0 h1⟩)
    · have hne : a ≠ to_ := by simpa using hb
      refine M.o_bindE (M.i_pure : (m_notes_web_made ws a).Ends a) ?_
      refine M.o_bind (made_out' (x := a) (fun i t => ∃ mp, t = .inl mp ∧ Srch ws (updF m a true) mp to_ ∧ ∀ y : Nat, y < i → Succ ws a (y : Int) → mt mp (y : Int))
        (fun t => ∃ l mp, t = .inr (l, mp) ∧ l ≠ [] ∧ LineG ws a to_ l) ?_ ?_ ⟨_, rfl, Srch.refl _ _, fun y hy => by omega⟩) ?_
      · rintro i t hi ⟨mp, rfl, hs, hy⟩ hm
        have hsu : Succ ws a (i : Int) := ⟨by omega, by omega, by rw [Int.toNat_natCast]; exact hm⟩
        have hlt := posO_lt (order_all hO (i := (i : Int)) (by omega) (by omega)) (by rw [Int.toNat_natCast]; exact hm)
        have next : ∀ mp', Srch ws (updF m a true) mp' to_ → (∀ x, mt mp x → mt mp' x) → mt mp' (i : Int) → ∃ mp2, (Sum.inl mp' : (Int → Option Bool) ⊕ (List Int × (Int → Option Bool))) = .inl mp2 ∧ Srch ws (updF m a true) mp2 to_ ∧ ∀ y : Nat, y < i + 1 → Succ ws a (y : Int) → mt mp2 (y : Int) :=
          fun mp' h1 h2 h3 => ⟨mp', rfl, h1, fun y hy' hsy => by
            by_cases e : y = i
            · rw [e]; exact h3
            · exact h2 _ (hy y (by omega) hsy)⟩
        have call : (m_notes_search_on ws (fun x => m_notes_Line_1 x) mp (i : Int) to_).Out (OnG ws mp (i : Int) to_) := ih (i : Int) mp (by omega) (by omega) (by omega)
        have rest : (M.bind ((M.fix m_notes_search_on_F m_notes_search_on_mon) (ws, (fun x => m_notes_Line_1 x), mp, (i : Int), to_)) fun (r4, q_b_s_met) =>
            bif !r4.isEmpty then (
            M.grd (decide ((([(a : Int)]).length + r4.length) * 8 ≤ 140737488355328)) <|
            M.pure (.inr (([(a : Int)]) ++ r4, q_b_s_met)))
            else (
            M.pure (.inl q_b_s_met)) : M ((Int → Option Bool) ⊕ ((List Int) × (Int → Option Bool)))).Out (fun r => (∃ mp', r = .inl mp' ∧ Srch ws (updF m a true) mp' to_ ∧ (∀ x, mt mp x → mt mp' x) ∧ mt mp' (i : Int)) ∨ ∃ l mp', r = .inr (l, mp') ∧ l ≠ [] ∧ LineG ws a to_ l) := by
          refine M.o_bind call ?_
          rintro ⟨l, mp'⟩ hq
          rcases hq with ⟨h1, h2⟩ | ⟨h1, h2, h3⟩
          · dsimp only at h1 h2 ⊢
            have hll := h2.len
            refine M.o_t (by cases l with | nil => exact absurd rfl h1 | cons x l => rfl) (M.o_grdD (by simp only [List.length_cons, List.length_nil]; omega) (M.o_pure (.inr ⟨_, _, rfl, by simp, LineG.cons h0 h1' hsu hlt h2⟩)))
          · dsimp only at h1 h2 h3 ⊢
            subst h1
            exact M.o_f rfl (M.o_pure (.inl ⟨_, rfl, hs.trans h2, h2.up, h3⟩))
        have fin : ∀ {bd : (Int → Option Bool) → Int → M ((Int → Option Bool) ⊕ ((List Int) × (Int → Option Bool)))}, (bd mp (i : Int)).Out (fun r => (∃ mp', r = .inl mp' ∧ Srch ws (updF m a true) mp' to_ ∧ (∀ x, mt mp x → mt mp' x) ∧ mt mp' (i : Int)) ∨ ∃ l mp', r = .inr (l, mp') ∧ l ≠ [] ∧ LineG ws a to_ l) →
            (M.yl bd (.inl mp) (i : Int)).Out (fun r => (r.1 = true ∧ ∃ mp, r.2 = .inl mp ∧ Srch ws (updF m a true) mp to_ ∧ ∀ y : Nat, y < i + 1 → Succ ws a (y : Int) → mt mp (y : Int)) ∨ (r.1 = false ∧ ∃ l mp, r.2 = .inr (l, mp) ∧ l ≠ [] ∧ LineG ws a to_ l)) := by
          intro bd hk
          simp only [M.yl]
          refine M.o_bind hk ?_
          rintro r (⟨mp', rfl, h1, h2, h3⟩ | ⟨l, mp', rfl, h1, h2⟩)
          · exact M.o_pure (.inl ⟨rfl, next mp' h1 h2 h3⟩)
          · exact M.o_pure (.inr ⟨rfl, l, mp', rfl, h1, h2⟩)
        refine fin ?_
        simp only [m_notes_search_on_b0]
        cases hmt : (mp (i : Int)).getD false with
        | true =>
          exact M.o_f rfl (M.o_t rfl (M.o_pure (.inl ⟨mp, rfl, hs, fun x hx => hx, hmt⟩)))
        | false =>
          cases hto : ((i : Int) != to_) with
          | true =>
            exact M.o_t rfl (M.o_bindE (M.i_pure : (m_notes_Line_1 (i : Int)).Ends true) (M.o_f rfl rest))
          | false => exact M.o_f rfl (M.o_f rfl rest)
      · rintro i t hi ⟨mp, rfl, hs, hy⟩ hm
        refine ⟨mp, rfl, hs, fun y hy' hsy => ?_⟩
        by_cases e : y = i
        · subst e
          have := hsy.2.2
          rw [Int.toNat_natCast] at this
          exact absurd this hm
        · exact hy y (by omega) hsy
      · rintro t (⟨mp, rfl, hs, hy⟩ | ⟨l, mp, rfl, h1, h2⟩)
        · refine M.o_pure (.inr ⟨rfl, ⟨fun x hx => hs.up x ((mt_upd m a x).2 (.inr hx)), fun x hx => ?_, fun hn => hs.no fun h => ?_⟩, hs.up a ((mt_upd m a a).2 (.inl rfl))⟩)
          · rcases hs.cl x hx with h3 | h3
            · rcases (mt_upd m a x).1 h3 with rfl | h3
              · refine .inr fun y hy' => ?_
                have := hy y.toNat (by have := hy'.2.1; have := hy'.1; omega) (by rw [Int.toNat_of_nonneg hy'.1]; exact hy')
                rwa [Int.toNat_of_nonneg hy'.1] at this
              · exact .inl h3
            · exact .inr h3
          · rcases (mt_upd m a to_).1 h with h3 | h3
            · exact hne h3.symm
            · exact hn h3
        · refine M.o_grdD (by have := List.length_pos_iff.2 h1; omega) (M.o_pure (.inl ⟨h1, h2⟩))
theorem line_wayG : ∀ (l : List Int) (a b : Int), LineG ws a b l → a = b ∨ Wy ws a.toNat b.toNat
  | [], a, b, h => by obtain ⟨r, hr⟩ := h.first; cases hr
  | [x], a, b, h => by
    obtain ⟨r, hr⟩ := h.first
    obtain ⟨q, hq⟩ := h.last
    left
    have h1 : x = a := (List.cons.inj hr).1
    cases q with
    | nil => have h2 : x = b := (List.cons.inj hq).1; omega
    | cons y q => simp at hq
  | x :: y :: l, a, b, h => by
    obtain ⟨r, hr⟩ := h.first
    obtain ⟨q, hq⟩ := h.last
    have h1 : x = a := (List.cons.inj hr).1
    subst h1
    have hl := h.line
    simp only [lineB, Bool.and_eq_true] at hl
    have hm := hl.1
    rw [List.contains_iff_mem] at hm
    have hx := h.rng x (by simp)
    have hy := h.rng y (by simp)
    have hw : Wy ws x.toNat y.toNat := .one (by rw [Int.toNat_of_nonneg hx.1]; exact hm) (by omega)
    have hq2 : ∃ r, y :: l = r ++ [b] := by
      cases q with
      | nil => simp at hq
      | cons z q => exact ⟨q, (List.cons.inj hq).2⟩
    right
    -- the way goes on from y
    have key : ∀ (l : List Int) (y : Int), lineB ws (y :: l) = true → (∀ z ∈ y :: l, 0 ≤ z ∧ z < (ws.length : Int)) → (∃ r, y :: l = r ++ [b]) → Wy ws x.toNat y.toNat → Wy ws x.toNat b.toNat := by
      intro l
      induction l with
      | nil =>
        intro y _ _ hb hw
        obtain ⟨r, hr⟩ := hb
        cases r with
        | nil => rw [← (List.cons.inj hr).1]; exact hw
        | cons z r => simp at hr
      | cons z l ih =>
        intro y hl hr hb hw
        simp only [lineB, Bool.and_eq_true] at hl
        have hm := hl.1
        rw [List.contains_iff_mem] at hm
        have hy := hr y (by simp)
        have hz := hr z (by simp)
        refine ih z hl.2 (fun u hu => hr u (List.mem_cons_of_mem _ hu)) ?_ (.more hw (by rw [Int.toNat_of_nonneg hy.1]; exact hm) (by omega))
        obtain ⟨r, hr⟩ := hb
        cases r with
        | nil => simp at hr
        | cons u r => exact ⟨r, (List.cons.inj hr).2⟩
    exact key l y hl.2 (fun z hz => h.rng z (List.mem_cons_of_mem _ hz)) hq2 hw
/-- A line, or the error that there is none. -/
def LnG (ws : List Work) (a b : Int) (r : List Int × Int) : Prop := (r.2 = 0 ∧ LineG ws a b r.1 ∧ (a = b ∨ Wy ws a.toNat b.toNat)) ∨ (r = ([], 5) ∧ a ≠ b ∧ ¬ Wy ws a.toNat b.toNat)
theorem line_outG (hO : openedE ws = 0) {a b : Int} (a0 : 0 ≤ a) (a1 : a < ws.length) (b0 : 0 ≤ b) (b1 : b < ws.length) : (m_notes_Line ws a b).Out (LnG ws a b) := by
  unfold m_notes_Line
  have ha : inB a 0 ((ws.length : Int) - 1) = true := by unfold inB; simp only [Bool.and_eq_true, decide_eq_true_eq]; omega
  have hb : inB b 0 ((ws.length : Int) - 1) = true := by unfold inB; simp only [Bool.and_eq_true, decide_eq_true_eq]; omega
  refine M.o_t (by simp [hO]) (M.o_f rfl (M.o_f (by rw [ha, hb]; rfl) (M.o_bindE (M.i_pure : (m_notes_web_search ws (fun x => m_notes_Line_1 x)).Ends (fun _ => none)) ?_)))
  unfold m_notes_search_line
  refine M.o_bind (P := OnG ws (fun _ => none) a b) (M.o_bind (on_outG hO (to_ := b) ws.length a (fun _ => none) a0 a1 (by omega)) ?_) ?_
  · rintro ⟨l, m⟩ hq
    exact M.o_pure hq
  · rintro ⟨l, m⟩ hq
    rcases hq with ⟨h1, h2⟩ | ⟨h1, h2, h3⟩
    · dsimp only at h1 h2 ⊢
      exact M.o_t (by cases l with | nil => exact absurd rfl h1 | cons x l => rfl) (M.o_pure (.inl ⟨rfl, h2, line_wayG l a b h2⟩))
    · dsimp only at h1 h2 h3 ⊢
      subst h1
      have hno : ¬ mt m b := h2.no (fun h => by cases h)
      have hcl : ∀ x, mt m x → ∀ y, Succ ws x y → mt m y := fun x hx => (h2.cl x hx).resolve_left (fun h => by cases h)
      refine M.o_f rfl (M.o_pure (.inr ⟨rfl, fun e => hno (e ▸ h3), fun w => hno ?_⟩))
      have := wy_closed hcl w (by rw [Int.toNat_of_nonneg a0]; exact h3)
      rwa [Int.toNat_of_nonneg b0] at this
end Go.Proofs.Ytndobgodeicloaa
namespace Go.Nm
open Go
structure Span where
  lo : Int
  hi : Int
deriving DecidableEq, Inhabited
instance : Flat Span where
  rep _ cs x := cs = [I x.lo, I x.hi]
  sz := 2
  agg := true
  sz_pos := by decide
  len := fun h => by subst h; rfl
  mono := fun _ h => h
  one := fun h v hv => by subst h; simp at hv; rcases hv with rfl | rfl <;> rfl
  enc x := [I x.lo, I x.hi]
  rep_iff := Iff.rfl
structure Visit where
  wlo : Int
  whi : Int
  klo : Int
  khi : Int
  opn : Int
  cls : Int
deriving DecidableEq, Inhabited
instance : Flat Visit where
  rep _ cs x := cs = [I x.wlo, I x.whi, I x.klo, I x.khi, I x.opn, I x.cls]
  sz := 6
  agg := true
  sz_pos := by decide
  len := fun h => by subst h; rfl
  mono := fun _ h => h
  one := fun h v hv => by subst h; simp at hv; rcases hv with rfl | rfl | rfl | rfl | rfl | rfl <;> rfl
  enc x := [I x.wlo, I x.whi, I x.klo, I x.khi, I x.opn, I x.cls]
  rep_iff := Iff.rfl
section
variable {P : Program} {w : World}
end
end Go.Nm
