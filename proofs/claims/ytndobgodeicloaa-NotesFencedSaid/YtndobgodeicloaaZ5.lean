/- Part 5 of the texts on which the proof rests. Conditions: none. -/
import Derived.Shelf.Slices.Delete
import Derived.Test.YtndobgodeicloaaZ4
set_option linter.unusedVariables false
set_option linter.unusedSimpArgs false
set_option linter.unusedSectionVars false
section
set_option maxRecDepth 100000
set_option maxHeartbeats 16000000
namespace Go.Proofs.Ytndobgodeicloaa
open Go Go.Nm
def m_nilometerlaw13_awake : M Bool :=
  M.bind (m_nilometerlaw13_Six) fun r2 =>
  M.bind (M.pure (valuesR r2 ([(⟨(0 : Int), (2 : Int), (7 : Int)⟩ : Note), (⟨(1 : Int), (0 : Int), (9 : Int)⟩ : Note)]), valuesE r2 ([(⟨(0 : Int), (2 : Int), (7 : Int)⟩ : Note), (⟨(1 : Int), (0 : Int), (9 : Int)⟩ : Note)]))) fun (l, e) =>
  M.bind (m_nilometerlaw13_Six) fun r3 =>
  M.bind (M.pure (staleR r3 ([(0 : Int)]), askedE r3 ([(0 : Int)]))) fun (l2, e2) =>
  M.bind (m_nilometerlaw13_Six) fun r4 =>
  M.bind (M.pure (readyR r4 ([(1 : Int)]), askedE r4 ([(1 : Int)]))) fun (l3, e3) =>
  M.bind (m_nilometerlaw13_Six) fun r5 =>
  M.bind (M.pure (longestR r5 ([(0 : Int)]), longestE r5 ([(0 : Int)]))) fun (l4, e4) =>
  M.bind (M.pure (decide (l = ([(7 : Int), (9 : Int), (26 : Int), (10 : Int), (47 : Int), (48 : Int)])))) fun s =>
  M.bind (M.pure (decide (l2 = ([(0 : Int), (2 : Int), (4 : Int), (5 : Int)])))) fun s2 =>
  M.bind (M.pure (decide (l3 = ([(-1 : Int), (6 : Int), (16 : Int), (36 : Int), (56 : Int), (57 : Int)])))) fun s3 =>
  M.bind (M.pure (decide (l4 = ([(0 : Int), (2 : Int), (4 : Int), (5 : Int)])))) fun s4 =>
  bif ((((((((e != 0) || (e2 != 0)) || (e3 != 0)) || (e4 != 0)) || (!s)) || (!s2)) || (!s3)) || (!s4)) then (
  M.pure false)
  else (
  M.bind (m_nilometerlaw13_Six) fun r6 =>
  M.bind (m_notes_Fences r6 ([(0 : Int)]) ([(0 : Int), (2 : Int), (4 : Int), (5 : Int)])) fun (r0, r1) =>
  M.bind (m_nilometerlaw13_Six) fun r7 =>
  M.bind (m_notes_Fences r7 ([(0 : Int)]) ([(0 : Int), (2 : Int), (4 : Int)])) fun (r02, r12) =>
  M.bind (m_nilometerlaw13_Six) fun r8 =>
  M.bind (m_notes_Freeze r8 ([(1 : Int)]) 4) fun (r03, r13) =>
  M.bind (m_nilometerlaw13_Six) fun r9 =>
  M.bind (m_notes_Lines r9 ([(1 : Int)]) 4) fun (r04, r14) =>
  M.bind (m_nilometerlaw13_Six) fun r10 =>
  M.bind (m_notes_Freeze r10 ([(1 : Int)]) 3) fun (r05, r15) =>
  M.bind (M.pure (decide (r03 = ([(2 : Int), (3 : Int)])))) fun s5 =>
  bif (((((((((r1 != 0) || (r12 != 0)) || (r13 != 0)) || (r14 != 0)) || (r15 != 5)) || (!r0)) || r02) || (!s5)) || ((r04.length : Int) != 2)) then (
  M.pure false)
  else (
  M.bind (m_nilometerlaw13_Six) fun r11 =>
  M.bind (M.pure (withdrawnR r11 ([(⟨(0 : Int), (3 : Int), (8 : Int)⟩ : Note), (⟨(0 : Int), (2 : Int), (7 : Int)⟩ : Note), (⟨(1 : Int), (0 : Int), (9 : Int)⟩ : Note)]) ([(⟨(2 : Int), (26 : Int)⟩ : Pub), (⟨(3 : Int), (10 : Int)⟩ : Pub)]), withdrawnE r11 ([(⟨(0 : Int), (3 : Int), (8 : Int)⟩ : Note), (⟨(0 : Int), (2 : Int), (7 : Int)⟩ : Note), (⟨(1 : Int), (0 : Int), (9 : Int)⟩ : Note)]) ([(⟨(2 : Int), (26 : Int)⟩ : Pub), (⟨(3 : Int), (10 : Int)⟩ : Pub)]))) fun (l5, e5) =>
  M.bind (M.pure (decide (l5 = ([(0 : Int)])))) fun s6 =>
  M.pure ((e5 == 0) && s6)))
theorem nilometerlaw13_awake_ok {R : List Chunk}    {r : Bool} (hM : (m_nilometerlaw13_awake).Ends r) (w : World) (H : St w w [] R) : Ret Try.prog 17 #[] w fun v w' => ∃ (y0 : Bool), y0 = r ∧ v = B y0 ∧ St w w' [] R := by
 refine ret_of_W Try.func17 rfl rfl rfl ?_
 refine sQ rfl <| sA (B false) rfl <| s_nil <| sQ rfl ?_
 obtain ⟨r2z, hx1z, hM⟩ := M.e_bind hM
 refine s_call cf79 [] rfl (nilometerlaw13_Six_ok hx1z _ (St.give (T := []) H rfl)) ?_
 rintro vq w3z ⟨r2, u0_1, rr1_2, Bs2_3, hr4z, hvq, H2_, hf5z⟩
 subst hr4z
 subst vq
 try dsimp only at hM
 replace H : St w w3z [cOwn (α := Raw 2) 60 u0_1 rr1_2, cRo Bs2_3] R := H.back H2_ rfl
 clear H2_
 refine s_val (x_bld (ps := [(0, I 0), (1, I 2), (2, I 7)]) (zs := [I 0, I 0, I 0]) (L' := [I 0, I 2, I 7]) rfl Try.underlying30 Al30 rfl (Bd30 Try.underlying30) (.cons (cs := [I 0]) rfl rfl rfl rfl rfl <| .cons (cs := [I 2]) rfl rfl rfl rfl rfl <| .cons (cs := [I 7]) rfl rfl rfl rfl rfl <| .nil)) <| s_val (x_bld (ps := [(0, I 1), (2, I 9)]) (zs := [I 0, I 0, I 0]) (L' := [I 1, I 0, I 9]) rfl Try.underlying30 Al30 rfl (Bd30 Try.underlying30) (.cons (cs := [I 1]) rfl rfl rfl rfl rfl <| .cons (cs := [I 9]) rfl rfl rfl rfl rfl <| .nil)) ?_
 refine t_bs (α := Note) T23 [.agg #[I 0, I 2, I 7], .agg #[I 1, I 0, I 9]] [(⟨(0 : Int), (2 : Int), (7 : Int)⟩ : Note), (⟨(1 : Int), (0 : Int), (9 : Int)⟩ : Note)] H rfl (.cons rfl (Flat.rep_enc _ (⟨(0 : Int), (2 : Int), (7 : Int)⟩ : Note)) <| .cons rfl (Flat.rep_enc _ (⟨(1 : Int), (0 : Int), (9 : Int)⟩ : Note)) <| .nil) rfl rfl rfl ?_
 intro v6z w7z H
 obtain ⟨⟨l, e⟩, hx11z, hM⟩ := M.e_bind hM
 obtain ⟨hq12z, hq13z⟩ := Prod.mk.inj (M.e_pure hx11z)
 try dsimp only at hM
 refine s_call cf21 [u0_1, v6z] rfl (by have hc_ := (Values_any _ ((rowSl rfl (H.get (k := 1) rfl) (roLe _ (H.get (k := 2) rfl)) hf5z).mono (Cells.sup_le (ownLe _ (H.get (k := 1) rfl)) (roLe _ (H.get (k := 2) rfl)))) ((ownSl (H.get (k := 0) rfl)).mono (ownLe _ (H.get (k := 0) rfl)))); rw [hq12z, hq13z] at hc_; exact hc_) ?_
 rintro _ w8z ⟨u9z, rfl, hs10z, hx_⟩
 obtain ⟨Bs_5, H, hs10z⟩ := H.fresh hx_ hs10z
 clear hx_
 have hl_hs10z := hs10z.len_le
 refine sM (.tuple #[u9z, I e]) rfl <| sX [u9z, I e] u9z rfl rfl <| sX [u9z, I e] (I e) rfl rfl <| sA u9z rfl <| sA (I e) rfl <| s_nil <| sQ rfl ?_
 obtain ⟨r15z, hx14z, hM⟩ := M.e_bind hM
 refine s_call cf79 [] rfl (nilometerlaw13_Six_ok hx14z _ (St.give (T := [cRo Bs_5, cOwn (α := Note) 30 v6z ([(⟨(0 : Int), (2 : Int), (7 : Int)⟩ : Note), (⟨(1 : Int), (0 : Int), (9 : Int)⟩ : Note)]), cOwn (α := Raw 2) 60 u0_1 rr1_2, cRo Bs2_3]) H rfl)) ?_
 rintro vq w16z ⟨r3, u0_6, rr1_7, Bs2_8, hr17z, hvq, H2_, hf18z⟩
 subst hr17z
 subst vq
 try dsimp only at hM
 replace H : St w w16z [cOwn (α := Raw 2) 60 u0_6 rr1_7, cRo Bs2_8, cRo Bs_5, cOwn (α := Note) 30 v6z ([(⟨(0 : Int), (2 : Int), (7 : Int)⟩ : Note), (⟨(1 : Int), (0 : Int), (9 : Int)⟩ : Note)]), cOwn (α := Raw 2) 60 u0_1 rr1_2, cRo Bs2_3] R := H.back H2_ rfl
 clear H2_
 refine t_bs (α := Int) T34 [I 0] [(0 : Int)] H rfl (.cons rfl (Flat.rep_enc _ (0 : Int)) <| .nil) rfl rfl rfl ?_
 intro v19z w20z H
 obtain ⟨⟨l2, e2⟩, hx24z, hM⟩ := M.e_bind hM
 obtain ⟨hq25z, hq26z⟩ := Prod.mk.inj (M.e_pure hx24z)
 try dsimp only at hM
 refine s_call cf32 [u0_6, v19z] rfl (by have hc_ := (Stale_any _ ((rowSl rfl (H.get (k := 1) rfl) (roLe _ (H.get (k := 2) rfl)) hf18z).mono (Cells.sup_le (ownLe _ (H.get (k := 1) rfl)) (roLe _ (H.get (k := 2) rfl)))) ((ownSl (H.get (k := 0) rfl)).mono (ownLe _ (H.get (k := 0) rfl)))); rw [hq25z, hq26z] at hc_; exact hc_) ?_
 rintro _ w21z ⟨u22z, rfl, hs23z, hx_⟩
 obtain ⟨Bs_10, H, hs23z⟩ := H.fresh hx_ hs23z
 clear hx_
 have hl_hs23z := hs23z.len_le
 refine sM (.tuple #[u22z, I e2]) rfl <| sX [u22z, I e2] u22z rfl rfl <| sX [u22z, I e2] (I e2) rfl rfl <| sA u22z rfl <| sA (I e2) rfl <| s_nil <| sQ rfl ?_
 obtain ⟨r28z, hx27z, hM⟩ := M.e_bind hM
 refine s_call cf79 [] rfl (nilometerlaw13_Six_ok hx27z _ (St.give (T := [cRo Bs_10, cOwn (α := Int) 3 v19z ([(0 : Int)]), cOwn (α := Raw 2) 60 u0_6 rr1_7, cRo Bs2_8, cRo Bs_5, cOwn (α := Note) 30 v6z ([(⟨(0 : Int), (2 : Int), (7 : Int)⟩ : Note), (⟨(1 : Int), (0 : Int), (9 : Int)⟩ : Note)]), cOwn (α := Raw 2) 60 u0_1 rr1_2, cRo Bs2_3]) H rfl)) ?_
 rintro vq w29z ⟨r4, u0_11, rr1_12, Bs2_13, hr30z, hvq, H2_, hf31z⟩
 subst hr30z
 subst vq
 try dsimp only at hM
 replace H : St w w29z [cOwn (α := Raw 2) 60 u0_11 rr1_12, cRo Bs2_13, cRo Bs_10, cOwn (α := Int) 3 v19z ([(0 : Int)]), cOwn (α := Raw 2) 60 u0_6 rr1_7, cRo Bs2_8, cRo Bs_5, cOwn (α := Note) 30 v6z ([(⟨(0 : Int), (2 : Int), (7 : Int)⟩ : Note), (⟨(1 : Int), (0 : Int), (9 : Int)⟩ : Note)]), cOwn (α := Raw 2) 60 u0_1 rr1_2, cRo Bs2_3] R := H.back H2_ rfl
 clear H2_
 refine t_bs (α := Int) T34 [I 1] [(1 : Int)] H rfl (.cons rfl (Flat.rep_enc _ (1 : Int)) <| .nil) rfl rfl rfl ?_
 intro v32z w33z H
 obtain ⟨⟨l3, e3⟩, hx37z, hM⟩ := M.e_bind hM
 obtain ⟨hq38z, hq39z⟩ := Prod.mk.inj (M.e_pure hx37z)
 try dsimp only at hM
 refine s_call cf36 [u0_11, v32z] rfl (by have hc_ := (Ready_any _ ((rowSl rfl (H.get (k := 1) rfl) (roLe _ (H.get (k := 2) rfl)) hf31z).mono (Cells.sup_le (ownLe _ (H.get (k := 1) rfl)) (roLe _ (H.get (k := 2) rfl)))) ((ownSl (H.get (k := 0) rfl)).mono (ownLe _ (H.get (k := 0) rfl)))); rw [hq38z, hq39z] at hc_; exact hc_) ?_
 rintro _ w34z ⟨u35z, rfl, hs36z, hx_⟩
 obtain ⟨Bs_15, H, hs36z⟩ := H.fresh hx_ hs36z
 clear hx_
 have hl_hs36z := hs36z.len_le
 refine sM (.tuple #[u35z, I e3]) rfl <| sX [u35z, I e3] u35z rfl rfl <| sX [u35z, I e3] (I e3) rfl rfl <| sA u35z rfl <| sA (I e3) rfl <| s_nil <| sQ rfl ?_
 obtain ⟨r41z, hx40z, hM⟩ := M.e_bind hM
 refine s_call cf79 [] rfl (nilometerlaw13_Six_ok hx40z _ (St.give (T := [cRo Bs_15, cOwn (α := Int) 3 v32z ([(1 : Int)]), cOwn (α := Raw 2) 60 u0_11 rr1_12, cRo Bs2_13, cRo Bs_10, cOwn (α := Int) 3 v19z ([(0 : Int)]), cOwn (α := Raw 2) 60 u0_6 rr1_7, cRo Bs2_8, cRo Bs_5, cOwn (α := Note) 30 v6z ([(⟨(0 : Int), (2 : Int), (7 : Int)⟩ : Note), (⟨(1 : Int), (0 : Int), (9 : Int)⟩ : Note)]), cOwn (α := Raw 2) 60 u0_1 rr1_2, cRo Bs2_3]) H rfl)) ?_
 rintro vq w42z ⟨r5, u0_16, rr1_17, Bs2_18, hr43z, hvq, H2_, hf44z⟩
 subst hr43z
 subst vq
 try dsimp only at hM
 replace H : St w w42z [cOwn (α := Raw 2) 60 u0_16 rr1_17, cRo Bs2_18, cRo Bs_15, cOwn (α := Int) 3 v32z ([(1 : Int)]), cOwn (α := Raw 2) 60 u0_11 rr1_12, cRo Bs2_13, cRo Bs_10, cOwn (α := Int) 3 v19z ([(0 : Int)]), cOwn (α := Raw 2) 60 u0_6 rr1_7, cRo Bs2_8, cRo Bs_5, cOwn (α := Note) 30 v6z ([(⟨(0 : Int), (2 : Int), (7 : Int)⟩ : Note), (⟨(1 : Int), (0 : Int), (9 : Int)⟩ : Note)]), cOwn (α := Raw 2) 60 u0_1 rr1_2, cRo Bs2_3] R := H.back H2_ rfl
 clear H2_
 refine t_bs (α := Int) T34 [I 0] [(0 : Int)] H rfl (.cons rfl (Flat.rep_enc _ (0 : Int)) <| .nil) rfl rfl rfl ?_
 intro v45z w46z H
 obtain ⟨⟨l4, e4⟩, hx50z, hM⟩ := M.e_bind hM
 obtain ⟨hq51z, hq52z⟩ := Prod.mk.inj (M.e_pure hx50z)
 try dsimp only at hM
 refine s_call cf38 [u0_16, v45z] rfl (by have hc_ := (Longest_any _ ((rowSl rfl (H.get (k := 1) rfl) (roLe _ (H.get (k := 2) rfl)) hf44z).mono (Cells.sup_le (ownLe _ (H.get (k := 1) rfl)) (roLe _ (H.get (k := 2) rfl)))) ((ownSl (H.get (k := 0) rfl)).mono (ownLe _ (H.get (k := 0) rfl)))); rw [hq51z, hq52z] at hc_; exact hc_) ?_
 rintro _ w47z ⟨u48z, rfl, hs49z, hx_⟩
 obtain ⟨Bs_20, H, hs49z⟩ := H.fresh hx_ hs49z
 clear hx_
 have hl_hs49z := hs49z.len_le
 refine sM (.tuple #[u48z, I e4]) rfl <| sX [u48z, I e4] u48z rfl rfl <| sX [u48z, I e4] (I e4) rfl rfl <| sA u48z rfl <| sA (I e4) rfl <| s_nil <| W.seq <| sQ rfl <| sM (I e) rfl <| sC e 0 (e != 0) rfl rfl rfl <| sM (B (e != 0)) rfl ?_
 refine g_val (!(e != 0)) (gy_f rfl) (fun hg => x_mv (v := I e2) rfl) <| g_val (!(e != 0)) (gy_f rfl) (fun hg => x_cmp (kd := .i64) (a := e2) (b := 0) (r := e2 != 0) (gd_of (c := !(e != 0)) hg (I e2)) rfl rfl) <| s_val (x_por (b := e != 0) (r := e2 != 0) rfl rfl (fun hb => gd_of (c := !(e != 0)) (by first | exact hb | (rw [hb]; rfl) | simp_all) (B (e2 != 0)))) <| sM (B ((e != 0) || (e2 != 0))) rfl <| g_val (!((e != 0) || (e2 != 0))) (gy_f rfl) (fun hg => x_mv (v := I e3) rfl) <| g_val (!((e != 0) || (e2 != 0))) (gy_f rfl) (fun hg => x_cmp (kd := .i64) (a := e3) (b := 0) (r := e3 != 0) (gd_of (c := !((e != 0) || (e2 != 0))) hg (I e3)) rfl rfl) <| s_val (x_por (b := ((e != 0) || (e2 != 0))) (r := e3 != 0) rfl rfl (fun hb => gd_of (c := !((e != 0) || (e2 != 0))) (by first | exact hb | (rw [hb]; rfl) | simp_all) (B (e3 != 0)))) <| sM (B (((e != 0) || (e2 != 0)) || (e3 != 0))) rfl <| g_val (!(((e != 0) || (e2 != 0)) || (e3 != 0))) (gy_f rfl) (fun hg => x_mv (v := I e4) rfl) <| g_val (!(((e != 0) || (e2 != 0)) || (e3 != 0))) (gy_f rfl) (fun hg => x_cmp (kd := .i64) (a := e4) (b := 0) (r := e4 != 0) (gd_of (c := !(((e != 0) || (e2 != 0)) || (e3 != 0))) hg (I e4)) rfl rfl) <| s_val (x_por (b := (((e != 0) || (e2 != 0)) || (e3 != 0))) (r := e4 != 0) rfl rfl (fun hb => gd_of (c := !(((e != 0) || (e2 != 0)) || (e3 != 0))) (by first | exact hb | (rw [hb]; rfl) | simp_all) (B (e4 != 0)))) <| sM (B ((((e != 0) || (e2 != 0)) || (e3 != 0)) || (e4 != 0))) rfl ?_
 refine g_val (!((((e != 0) || (e2 != 0)) || (e3 != 0)) || (e4 != 0))) (gy_f rfl) (fun hg => x_mv (v := u9z) rfl) ?_
 refine t_gbs (α := Int) T34 (!((((e != 0) || (e2 != 0)) || (e3 != 0)) || (e4 != 0))) (gy_f rfl) [I 7, I 9, I 26, I 10, I 47, I 48] [(7 : Int), (9 : Int), (26 : Int), (10 : Int), (47 : Int), (48 : Int)] H (fun _ => rfl) (.cons rfl (Flat.rep_enc _ _) <| .cons rfl (Flat.rep_enc _ _) <| .cons rfl (Flat.rep_enc _ _) <| .cons rfl (Flat.rep_enc _ _) <| .cons rfl (Flat.rep_enc _ _) <| .cons rfl (Flat.rep_enc _ _) <| .nil) rfl rfl rfl ?_
 intro v53z Bs_21 w54z H hf55z
 obtain ⟨s, hx56z, hM⟩ := M.e_bind hM
 replace hx56z := M.e_pure hx56z
 refine t_gcall (!((((e != 0) || (e2 != 0)) || (e3 != 0)) || (e4 != 0))) (gy_f rfl) cf25 (B s) (fun _ => [u9z, v53z]) (fun hg => lst2 (gd_of (c := !((((e != 0) || (e2 != 0)) || (e3 != 0)) || (e4 != 0))) hg (u9z)) (gd_of (c := !((((e != 0) || (e2 != 0)) || (e3 != 0)) || (e4 != 0))) hg (v53z))) H (fun hg => Ret.mono (same_int _ (hs10z.mono (roLe _ (H.get (k := 13) rfl))) ((hf55z hg).mono (roLe _ (H.get (k := 0) rfl)))) fun v_ w_ ⟨hv_, hx_⟩ => ⟨hv_.trans (congrArg B hx56z), H.ext hx_⟩) ?_
 intro w57z H
 refine g_val (!((((e != 0) || (e2 != 0)) || (e3 != 0)) || (e4 != 0))) (gy_f rfl) (fun hg => x_not (b := s) (gd_of (c := !((((e != 0) || (e2 != 0)) || (e3 != 0)) || (e4 != 0))) hg (B s))) <| s_val (x_por (b := ((((e != 0) || (e2 != 0)) || (e3 != 0)) || (e4 != 0))) (r := !s) rfl rfl (fun hb => gd_of (c := !((((e != 0) || (e2 != 0)) || (e3 != 0)) || (e4 != 0))) (by first | exact hb | (rw [hb]; rfl) | simp_all) (B (!s)))) <| sM (B (((((e != 0) || (e2 != 0)) || (e3 != 0)) || (e4 != 0)) || (!s))) rfl <| g_val (!(((((e != 0) || (e2 != 0)) || (e3 != 0)) || (e4 != 0)) || (!s))) (gy_f rfl) (fun hg => x_mv (v := u22z) rfl) ?_
 refine t_gbs (α := Int) T34 (!(((((e != 0) || (e2 != 0)) || (e3 != 0)) || (e4 != 0)) || (!s))) (gy_f rfl) [I 0, I 2, I 4, I 5] [(0 : Int), (2 : Int), (4 : Int), (5 : Int)] H (fun _ => rfl) (.cons rfl (Flat.rep_enc _ _) <| .cons rfl (Flat.rep_enc _ _) <| .cons rfl (Flat.rep_enc _ _) <| .cons rfl (Flat.rep_enc _ _) <| .nil) rfl rfl rfl ?_
 intro v58z Bs_22 w59z H hf60z
 obtain ⟨s2, hx61z, hM⟩ := M.e_bind hM
 replace hx61z := M.e_pure hx61z
 refine t_gcall (!(((((e != 0) || (e2 != 0)) || (e3 != 0)) || (e4 != 0)) || (!s))) (gy_f rfl) cf25 (B s2) (fun _ => [u22z, v58z]) (fun hg => lst2 (gd_of (c := !(((((e != 0) || (e2 != 0)) || (e3 != 0)) || (e4 != 0)) || (!s))) hg (u22z)) (gd_of (c := !(((((e != 0) || (e2 != 0)) || (e3 != 0)) || (e4 != 0)) || (!s))) hg (v58z))) H (fun hg => Ret.mono (same_int _ (hs23z.mono (roLe _ (H.get (k := 10) rfl))) ((hf60z hg).mono (roLe _ (H.get (k := 0) rfl)))) fun v_ w_ ⟨hv_, hx_⟩ => ⟨hv_.trans (congrArg B hx61z), H.ext hx_⟩) ?_
 intro w62z H
 refine g_val (!(((((e != 0) || (e2 != 0)) || (e3 != 0)) || (e4 != 0)) || (!s))) (gy_f rfl) (fun hg => x_not (b := s2) (gd_of (c := !(((((e != 0) || (e2 != 0)) || (e3 != 0)) || (e4 != 0)) || (!s))) hg (B s2))) <| s_val (x_por (b := (((((e != 0) || (e2 != 0)) || (e3 != 0)) || (e4 != 0)) || (!s))) (r := !s2) rfl rfl (fun hb => gd_of (c := !(((((e != 0) || (e2 != 0)) || (e3 != 0)) || (e4 != 0)) || (!s))) (by first | exact hb | (rw [hb]; rfl) | simp_all) (B (!s2)))) <| sM (B ((((((e != 0) || (e2 != 0)) || (e3 != 0)) || (e4 != 0)) || (!s)) || (!s2))) rfl <| g_val (!((((((e != 0) || (e2 != 0)) || (e3 != 0)) || (e4 != 0)) || (!s)) || (!s2))) (gy_f rfl) (fun hg => x_mv (v := u35z) rfl) ?_
 refine t_gbs (α := Int) T34 (!((((((e != 0) || (e2 != 0)) || (e3 != 0)) || (e4 != 0)) || (!s)) || (!s2))) (gy_f rfl) [I (-1), I 6, I 16, I 36, I 56, I 57] [(-1 : Int), (6 : Int), (16 : Int), (36 : Int), (56 : Int), (57 : Int)] H (fun _ => rfl) (.cons rfl (Flat.rep_enc _ _) <| .cons rfl (Flat.rep_enc _ _) <| .cons rfl (Flat.rep_enc _ _) <| .cons rfl (Flat.rep_enc _ _) <| .cons rfl (Flat.rep_enc _ _) <| .cons rfl (Flat.rep_enc _ _) <| .nil) rfl rfl rfl ?_
 intro v63z Bs_23 w64z H hf65z
 obtain ⟨s3, hx66z, hM⟩ := M.e_bind hM
 replace hx66z := M.e_pure hx66z
 refine t_gcall (!((((((e != 0) || (e2 != 0)) || (e3 != 0)) || (e4 != 0)) || (!s)) || (!s2))) (gy_f rfl) cf25 (B s3) (fun _ => [u35z, v63z]) (fun hg => lst2 (gd_of (c := !((((((e != 0) || (e2 != 0)) || (e3 != 0)) || (e4 != 0)) || (!s)) || (!s2))) hg (u35z)) (gd_of (c := !((((((e != 0) || (e2 != 0)) || (e3 != 0)) || (e4 != 0)) || (!s)) || (!s2))) hg (v63z))) H (fun hg => Ret.mono (same_int _ (hs36z.mono (roLe _ (H.get (k := 7) rfl))) ((hf65z hg).mono (roLe _ (H.get (k := 0) rfl)))) fun v_ w_ ⟨hv_, hx_⟩ => ⟨hv_.trans (congrArg B hx66z), H.ext hx_⟩) ?_
 intro w67z H
 refine g_val (!((((((e != 0) || (e2 != 0)) || (e3 != 0)) || (e4 != 0)) || (!s)) || (!s2))) (gy_f rfl) (fun hg => x_not (b := s3) (gd_of (c := !((((((e != 0) || (e2 != 0)) || (e3 != 0)) || (e4 != 0)) || (!s)) || (!s2))) hg (B s3))) <| s_val (x_por (b := ((((((e != 0) || (e2 != 0)) || (e3 != 0)) || (e4 != 0)) || (!s)) || (!s2))) (r := !s3) rfl rfl (fun hb => gd_of (c := !((((((e != 0) || (e2 != 0)) || (e3 != 0)) || (e4 != 0)) || (!s)) || (!s2))) (by first | exact hb | (rw [hb]; rfl) | simp_all) (B (!s3)))) <| sM (B (((((((e != 0) || (e2 != 0)) || (e3 != 0)) || (e4 != 0)) || (!s)) || (!s2)) || (!s3))) rfl <| g_val (!(((((((e != 0) || (e2 != 0)) || (e3 != 0)) || (e4 != 0)) || (!s)) || (!s2)) || (!s3))) (gy_f rfl) (fun hg => x_mv (v := u48z) rfl) ?_
 refine t_gbs (α := Int) T34 (!(((((((e != 0) || (e2 != 0)) || (e3 != 0)) || (e4 != 0)) || (!s)) || (!s2)) || (!s3))) (gy_f rfl) [I 0, I 2, I 4, I 5] [(0 : Int), (2 : Int), (4 : Int), (5 : Int)] H (fun _ => rfl) (.cons rfl (Flat.rep_enc _ _) <| .cons rfl (Flat.rep_enc _ _) <| .cons rfl (Flat.rep_enc _ _) <| .cons rfl (Flat.rep_enc _ _) <| .nil) rfl rfl rfl ?_
 intro v68z Bs_24 w69z H hf70z
 obtain ⟨s4, hx71z, hM⟩ := M.e_bind hM
 replace hx71z := M.e_pure hx71z
 refine t_gcall (!(((((((e != 0) || (e2 != 0)) || (e3 != 0)) || (e4 != 0)) || (!s)) || (!s2)) || (!s3))) (gy_f rfl) cf25 (B s4) (fun _ => [u48z, v68z]) (fun hg => lst2 (gd_of (c := !(((((((e != 0) || (e2 != 0)) || (e3 != 0)) || (e4 != 0)) || (!s)) || (!s2)) || (!s3))) hg (u48z)) (gd_of (c := !(((((((e != 0) || (e2 != 0)) || (e3 != 0)) || (e4 != 0)) || (!s)) || (!s2)) || (!s3))) hg (v68z))) H (fun hg => Ret.mono (same_int _ (hs49z.mono (roLe _ (H.get (k := 4) rfl))) ((hf70z hg).mono (roLe _ (H.get (k := 0) rfl)))) fun v_ w_ ⟨hv_, hx_⟩ => ⟨hv_.trans (congrArg B hx71z), H.ext hx_⟩) ?_
 intro w72z H
 refine g_val (!(((((((e != 0) || (e2 != 0)) || (e3 != 0)) || (e4 != 0)) || (!s)) || (!s2)) || (!s3))) (gy_f rfl) (fun hg => x_not (b := s4) (gd_of (c := !(((((((e != 0) || (e2 != 0)) || (e3 != 0)) || (e4 != 0)) || (!s)) || (!s2)) || (!s3))) hg (B s4))) <| s_val (x_por (b := (((((((e != 0) || (e2 != 0)) || (e3 != 0)) || (e4 != 0)) || (!s)) || (!s2)) || (!s3))) (r := !s4) rfl rfl (fun hb => gd_of (c := !(((((((e != 0) || (e2 != 0)) || (e3 != 0)) || (e4 != 0)) || (!s)) || (!s2)) || (!s3))) (by first | exact hb | (rw [hb]; rfl) | simp_all) (B (!s4)))) <| s_nil ?_
 refine W.cond ((((((((e != 0) || (e2 != 0)) || (e3 != 0)) || (e4 != 0)) || (!s)) || (!s2)) || (!s3)) || (!s4)) rfl (fun c73z => ?_) (fun c73z => ?_)
 ·replace hM := M.e_t hM c73z
  refine sQ rfl <| sA (B false) rfl <| s_nil ?_
  refine W.ret ?_
  have hr_ := M.e_pure hM
  exact ⟨_, resE_tmp rfl, ⟨false, hr_, rfl, (H.pick [] (by decide) rfl)⟩⟩
 replace hM := M.e_f hM c73z
 refine W.skip <| sQ rfl ?_
 obtain ⟨r75z, hx74z, hM⟩ := M.e_bind hM
 refine s_call cf79 [] rfl (nilometerlaw13_Six_ok hx74z _ (St.give (T := [cRo Bs_24, cRo Bs_23, cRo Bs_22, cRo Bs_21, cRo Bs_20, cOwn (α := Int) 3 v45z ([(0 : Int)]), cOwn (α := Raw 2) 60 u0_16 rr1_17, cRo Bs2_18, cRo Bs_15, cOwn (α := Int) 3 v32z ([(1 : Int)]), cOwn (α := Raw 2) 60 u0_11 rr1_12, cRo Bs2_13, cRo Bs_10, cOwn (α := Int) 3 v19z ([(0 : Int)]), cOwn (α := Raw 2) 60 u0_6 rr1_7, cRo Bs2_8, cRo Bs_5, cOwn (α := Note) 30 v6z ([(⟨(0 : Int), (2 : Int), (7 : Int)⟩ : Note), (⟨(1 : Int), (0 : Int), (9 : Int)⟩ : Note)]), cOwn (α := Raw 2) 60 u0_1 rr1_2, cRo Bs2_3]) H rfl)) ?_
 rintro vq w76z ⟨r6, u0_25, rr1_26, Bs2_27, hr77z, hvq, H2_, hf78z⟩
 subst hr77z
 subst vq
 try dsimp only at hM
 replace H : St w w76z [cOwn (α := Raw 2) 60 u0_25 rr1_26, cRo Bs2_27, cRo Bs_24, cRo Bs_23, cRo Bs_22, cRo Bs_21, cRo Bs_20, cOwn (α := Int) 3 v45z ([(0 : Int)]), cOwn (α := Raw 2) 60 u0_16 rr1_17, cRo Bs2_18, cRo Bs_15, cOwn (α := Int) 3 v32z ([(1 : Int)]), cOwn (α := Raw 2) 60 u0_11 rr1_12, cRo Bs2_13, cRo Bs_10, cOwn (α := Int) 3 v19z ([(0 : Int)]), cOwn (α := Raw 2) 60 u0_6 rr1_7, cRo Bs2_8, cRo Bs_5, cOwn (α := Note) 30 v6z ([(⟨(0 : Int), (2 : Int), (7 : Int)⟩ : Note), (⟨(1 : Int), (0 : Int), (9 : Int)⟩ : Note)]), cOwn (α := Raw 2) 60 u0_1 rr1_2, cRo Bs2_3] R := H.back H2_ rfl
 clear H2_
 refine t_bs (α := Int) T34 [I 0] [(0 : Int)] H rfl (.cons rfl (Flat.rep_enc _ (0 : Int)) <| .nil) rfl rfl rfl ?_
 intro v79z w80z H
 refine t_bs (α := Int) T34 [I 0, I 2, I 4, I 5] [(0 : Int), (2 : Int), (4 : Int), (5 : Int)] H rfl (.cons rfl (Flat.rep_enc _ (0 : Int)) <| .cons rfl (Flat.rep_enc _ (2 : Int)) <| .cons rfl (Flat.rep_enc _ (4 : Int)) <| .cons rfl (Flat.rep_enc _ (5 : Int)) <| .nil) rfl rfl rfl ?_
 intro v81z w82z H
 obtain ⟨r84z, hx83z, hM⟩ := M.e_bind hM
 refine s_call cf34 [u0_25, v79z, v81z] rfl (notes_Fences_ok r6 ([(0 : Int)]) ([(0 : Int), (2 : Int), (4 : Int), (5 : Int)]) (Reads.sup (Reads.of (k := 2) rfl ownLe) (Reads.of (k := 3) rfl roLe)) (rowSl rfl (H.get (k := 2) rfl) (roLe _ (H.get (k := 3) rfl)) hf78z) (Reads.of (k := 1) rfl ownLe) (ownSl (H.get (k := 1) rfl)) (Reads.of (k := 0) rfl ownLe) (ownSl (H.get (k := 0) rfl)) hx83z _ (St.give (T := [cOwn (α := Int) 3 v81z ([(0 : Int), (2 : Int), (4 : Int), (5 : Int)]), cOwn (α := Int) 3 v79z ([(0 : Int)]), cOwn (α := Raw 2) 60 u0_25 rr1_26, cRo Bs2_27, cRo Bs_24, cRo Bs_23, cRo Bs_22, cRo Bs_21, cRo Bs_20, cOwn (α := Int) 3 v45z ([(0 : Int)]), cOwn (α := Raw 2) 60 u0_16 rr1_17, cRo Bs2_18, cRo Bs_15, cOwn (α := Int) 3 v32z ([(1 : Int)]), cOwn (α := Raw 2) 60 u0_11 rr1_12, cRo Bs2_13, cRo Bs_10, cOwn (α := Int) 3 v19z ([(0 : Int)]), cOwn (α := Raw 2) 60 u0_6 rr1_7, cRo Bs2_8, cRo Bs_5, cOwn (α := Note) 30 v6z ([(⟨(0 : Int), (2 : Int), (7 : Int)⟩ : Note), (⟨(1 : Int), (0 : Int), (9 : Int)⟩ : Note)]), cOwn (α := Raw 2) 60 u0_1 rr1_2, cRo Bs2_3]) H rfl)) ?_
 rintro vq w85z ⟨r0, r1, hr86z, hvq, H2_⟩
 subst hr86z
 subst vq
 try dsimp only at hM
 replace H : St w w85z [cOwn (α := Int) 3 v81z ([(0 : Int), (2 : Int), (4 : Int), (5 : Int)]), cOwn (α := Int) 3 v79z ([(0 : Int)]), cOwn (α := Raw 2) 60 u0_25 rr1_26, cRo Bs2_27, cRo Bs_24, cRo Bs_23, cRo Bs_22, cRo Bs_21, cRo Bs_20, cOwn (α := Int) 3 v45z ([(0 : Int)]), cOwn (α := Raw 2) 60 u0_16 rr1_17, cRo Bs2_18, cRo Bs_15, cOwn (α := Int) 3 v32z ([(1 : Int)]), cOwn (α := Raw 2) 60 u0_11 rr1_12, cRo Bs2_13, cRo Bs_10, cOwn (α := Int) 3 v19z ([(0 : Int)]), cOwn (α := Raw 2) 60 u0_6 rr1_7, cRo Bs2_8, cRo Bs_5, cOwn (α := Note) 30 v6z ([(⟨(0 : Int), (2 : Int), (7 : Int)⟩ : Note), (⟨(1 : Int), (0 : Int), (9 : Int)⟩ : Note)]), cOwn (α := Raw 2) 60 u0_1 rr1_2, cRo Bs2_3] R := H.back H2_ rfl
 clear H2_
 refine sM (.tuple #[B r0, I r1]) rfl <| sX [B r0, I r1] (B r0) rfl rfl <| sX [B r0, I r1] (I r1) rfl rfl <| sA (B r0) rfl <| sA (I r1) rfl <| s_nil <| sQ rfl ?_
 obtain ⟨r88z, hx87z, hM⟩ := M.e_bind hM
 refine s_call cf79 [] rfl (nilometerlaw13_Six_ok hx87z _ (St.give (T := [cOwn (α := Int) 3 v81z ([(0 : Int), (2 : Int), (4 : Int), (5 : Int)]), cOwn (α := Int) 3 v79z ([(0 : Int)]), cOwn (α := Raw 2) 60 u0_25 rr1_26, cRo Bs2_27, cRo Bs_24, cRo Bs_23, cRo Bs_22, cRo Bs_21, cRo Bs_20, cOwn (α := Int) 3 v45z ([(0 : Int)]), cOwn (α := Raw 2) 60 u0_16 rr1_17, cRo Bs2_18, cRo Bs_15, cOwn (α := Int) 3 v32z ([(1 : Int)]), cOwn (α := Raw 2) 60 u0_11 rr1_12, cRo Bs2_13, cRo Bs_10, cOwn (α := Int) 3 v19z ([(0 : Int)]), cOwn (α := Raw 2) 60 u0_6 rr1_7, cRo Bs2_8, cRo Bs_5, cOwn (α := Note) 30 v6z ([(⟨(0 : Int), (2 : Int), (7 : Int)⟩ : Note), (⟨(1 : Int), (0 : Int), (9 : Int)⟩ : Note)]), cOwn (α := Raw 2) 60 u0_1 rr1_2, cRo Bs2_3]) H rfl)) ?_
 rintro vq w89z ⟨r7, u0_30, rr1_31, Bs2_32, hr90z, hvq, H2_, hf91z⟩
 subst hr90z
 subst vq
 try dsimp only at hM
 replace H : St w w89z [cOwn (α := Raw 2) 60 u0_30 rr1_31, cRo Bs2_32, cOwn (α := Int) 3 v81z ([(0 : Int), (2 : Int), (4 : Int), (5 : Int)]), cOwn (α := Int) 3 v79z ([(0 : Int)]), cOwn (α := Raw 2) 60 u0_25 rr1_26, cRo Bs2_27, cRo Bs_24, cRo Bs_23, cRo Bs_22, cRo Bs_21, cRo Bs_20, cOwn (α := Int) 3 v45z ([(0 : Int)]), cOwn (α := Raw 2) 60 u0_16 rr1_17, cRo Bs2_18, cRo Bs_15, cOwn (α := Int) 3 v32z ([(1 : Int)]), cOwn (α := Raw 2) 60 u0_11 rr1_12, cRo Bs2_13, cRo Bs_10, cOwn (α := Int) 3 v19z ([(0 : Int)]), cOwn (α := Raw 2) 60 u0_6 rr1_7, cRo Bs2_8, cRo Bs_5, cOwn (α := Note) 30 v6z ([(⟨(0 : Int), (2 : Int), (7 : Int)⟩ : Note), (⟨(1 : Int), (0 : Int), (9 : Int)⟩ : Note)]), cOwn (α := Raw 2) 60 u0_1 rr1_2, cRo Bs2_3] R := H.back H2_ rfl
 clear H2_
 refine t_bs (α := Int) T34 [I 0] [(0 : Int)] H rfl (.cons rfl (Flat.rep_enc _ (0 : Int)) <| .nil) rfl rfl rfl ?_
 intro v92z w93z H
 refine t_bs (α := Int) T34 [I 0, I 2, I 4] [(0 : Int), (2 : Int), (4 : Int)] H rfl (.cons rfl (Flat.rep_enc _ (0 : Int)) <| .cons rfl (Flat.rep_enc _ (2 : Int)) <| .cons rfl (Flat.rep_enc _ (4 : Int)) <| .nil) rfl rfl rfl ?_
 intro v94z w95z H
 obtain ⟨r97z, hx96z, hM⟩ := M.e_bind hM
 refine s_call cf34 [u0_30, v92z, v94z] rfl (notes_Fences_ok r7 ([(0 : Int)]) ([(0 : Int), (2 : Int), (4 : Int)]) (Reads.sup (Reads.of (k := 2) rfl ownLe) (Reads.of (k := 3) rfl roLe)) (rowSl rfl (H.get (k := 2) rfl) (roLe _ (H.get (k := 3) rfl)) hf91z) (Reads.of (k := 1) rfl ownLe) (ownSl (H.get (k := 1) rfl)) (Reads.of (k := 0) rfl ownLe) (ownSl (H.get (k := 0) rfl)) hx96z _ (St.give (T := [cOwn (α := Int) 3 v94z ([(0 : Int), (2 : Int), (4 : Int)]), cOwn (α := Int) 3 v92z ([(0 : Int)]), cOwn (α := Raw 2) 60 u0_30 rr1_31, cRo Bs2_32, cOwn (α := Int) 3 v81z ([(0 : Int), (2 : Int), (4 : Int), (5 : Int)]), cOwn (α := Int) 3 v79z ([(0 : Int)]), cOwn (α := Raw 2) 60 u0_25 rr1_26, cRo Bs2_27, cRo Bs_24, cRo Bs_23, cRo Bs_22, cRo Bs_21, cRo Bs_20, cOwn (α := Int) 3 v45z ([(0 : Int)]), cOwn (α := Raw 2) 60 u0_16 rr1_17, cRo Bs2_18, cRo Bs_15, cOwn (α := Int) 3 v32z ([(1 : Int)]), cOwn (α := Raw 2) 60 u0_11 rr1_12, cRo Bs2_13, cRo Bs_10, cOwn (α := Int) 3 v19z ([(0 : Int)]), cOwn (α := Raw 2) 60 u0_6 rr1_7, cRo Bs2_8, cRo Bs_5, cOwn (α := Note) 30 v6z ([(⟨(0 : Int), (2 : Int), (7 : Int)⟩ : Note), (⟨(1 : Int), (0 : Int), (9 : Int)⟩ : Note)]), cOwn (α := Raw 2) 60 u0_1 rr1_2, cRo Bs2_3]) H rfl)) ?_
 rintro vq w98z ⟨r02, r12, hr99z, hvq, H2_⟩
 subst hr99z
 subst vq
 try dsimp only at hM
 replace H : St w w98z [cOwn (α := Int) 3 v94z ([(0 : Int), (2 : Int), (4 : Int)]), cOwn (α := Int) 3 v92z ([(0 : Int)]), cOwn (α := Raw 2) 60 u0_30 rr1_31, cRo Bs2_32, cOwn (α := Int) 3 v81z ([(0 : Int), (2 : Int), (4 : Int), (5 : Int)]), cOwn (α := Int) 3 v79z ([(0 : Int)]), cOwn (α := Raw 2) 60 u0_25 rr1_26, cRo Bs2_27, cRo Bs_24, cRo Bs_23, cRo Bs_22, cRo Bs_21, cRo Bs_20, cOwn (α := Int) 3 v45z ([(0 : Int)]), cOwn (α := Raw 2) 60 u0_16 rr1_17, cRo Bs2_18, cRo Bs_15, cOwn (α := Int) 3 v32z ([(1 : Int)]), cOwn (α := Raw 2) 60 u0_11 rr1_12, cRo Bs2_13, cRo Bs_10, cOwn (α := Int) 3 v19z ([(0 : Int)]), cOwn (α := Raw 2) 60 u0_6 rr1_7, cRo Bs2_8, cRo Bs_5, cOwn (α := Note) 30 v6z ([(⟨(0 : Int), (2 : Int), (7 : Int)⟩ : Note), (⟨(1 : Int), (0 : Int), (9 : Int)⟩ : Note)]), cOwn (α := Raw 2) 60 u0_1 rr1_2, cRo Bs2_3] R := H.back H2_ rfl
 clear H2_
 refine sM (.tuple #[B r02, I r12]) rfl <| sX [B r02, I r12] (B r02) rfl rfl <| sX [B r02, I r12] (I r12) rfl rfl <| sA (B r02) rfl <| sA (I r12) rfl <| s_nil <| sQ rfl ?_
 obtain ⟨r101z, hx100z, hM⟩ := M.e_bind hM
 refine s_call cf79 [] rfl (nilometerlaw13_Six_ok hx100z _ (St.give (T := [cOwn (α := Int) 3 v94z ([(0 : Int), (2 : Int), (4 : Int)]), cOwn (α := Int) 3 v92z ([(0 : Int)]), cOwn (α := Raw 2) 60 u0_30 rr1_31, cRo Bs2_32, cOwn (α := Int) 3 v81z ([(0 : Int), (2 : Int), (4 : Int), (5 : Int)]), cOwn (α := Int) 3 v79z ([(0 : Int)]), cOwn (α := Raw 2) 60 u0_25 rr1_26, cRo Bs2_27, cRo Bs_24, cRo Bs_23, cRo Bs_22, cRo Bs_21, cRo Bs_20, cOwn (α := Int) 3 v45z ([(0 : Int)]), cOwn (α := Raw 2) 60 u0_16 rr1_17, cRo Bs2_18, cRo Bs_15, cOwn (α := Int) 3 v32z ([(1 : Int)]), cOwn (α := Raw 2) 60 u0_11 rr1_12, cRo Bs2_13, cRo Bs_10, cOwn (α := Int) 3 v19z ([(0 : Int)]), cOwn (α := Raw 2) 60 u0_6 rr1_7, cRo Bs2_8, cRo Bs_5, cOwn (α := Note) 30 v6z ([(⟨(0 : Int), (2 : Int), (7 : Int)⟩ : Note), (⟨(1 : Int), (0 : Int), (9 : Int)⟩ : Note)]), cOwn (α := Raw 2) 60 u0_1 rr1_2, cRo Bs2_3]) H rfl)) ?_
 rintro vq w102z ⟨r8, u0_35, rr1_36, Bs2_37, hr103z, hvq, H2_, hf104z⟩
 subst hr103z
 subst vq
 try dsimp only at hM
 replace H : St w w102z [cOwn (α := Raw 2) 60 u0_35 rr1_36, cRo Bs2_37, cOwn (α := Int) 3 v94z ([(0 : Int), (2 : Int), (4 : Int)]), cOwn (α := Int) 3 v92z ([(0 : Int)]), cOwn (α := Raw 2) 60 u0_30 rr1_31, cRo Bs2_32, cOwn (α := Int) 3 v81z ([(0 : Int), (2 : Int), (4 : Int), (5 : Int)]), cOwn (α := Int) 3 v79z ([(0 : Int)]), cOwn (α := Raw 2) 60 u0_25 rr1_26, cRo Bs2_27, cRo Bs_24, cRo Bs_23, cRo Bs_22, cRo Bs_21, cRo Bs_20, cOwn (α := Int) 3 v45z ([(0 : Int)]), cOwn (α := Raw 2) 60 u0_16 rr1_17, cRo Bs2_18, cRo Bs_15, cOwn (α := Int) 3 v32z ([(1 : Int)]), cOwn (α := Raw 2) 60 u0_11 rr1_12, cRo Bs2_13, cRo Bs_10, cOwn (α := Int) 3 v19z ([(0 : Int)]), cOwn (α := Raw 2) 60 u0_6 rr1_7, cRo Bs2_8, cRo Bs_5, cOwn (α := Note) 30 v6z ([(⟨(0 : Int), (2 : Int), (7 : Int)⟩ : Note), (⟨(1 : Int), (0 : Int), (9 : Int)⟩ : Note)]), cOwn (α := Raw 2) 60 u0_1 rr1_2, cRo Bs2_3] R := H.back H2_ rfl
 clear H2_
 refine t_bs (α := Int) T34 [I 1] [(1 : Int)] H rfl (.cons rfl (Flat.rep_enc _ (1 : Int)) <| .nil) rfl rfl rfl ?_
 intro v105z w106z H
 obtain ⟨r108z, hx107z, hM⟩ := M.e_bind hM
 refine s_call cf64 [u0_35, v105z, I 4] rfl (notes_Freeze_ok r8 ([(1 : Int)]) 4 (Reads.sup (Reads.of (k := 1) rfl ownLe) (Reads.of (k := 2) rfl roLe)) (rowSl rfl (H.get (k := 1) rfl) (roLe _ (H.get (k := 2) rfl)) hf104z) (Reads.of (k := 0) rfl ownLe) (ownSl (H.get (k := 0) rfl)) hx107z _ (St.give (T := [cOwn (α := Int) 3 v105z ([(1 : Int)]), cOwn (α := Raw 2) 60 u0_35 rr1_36, cRo Bs2_37, cOwn (α := Int) 3 v94z ([(0 : Int), (2 : Int), (4 : Int)]), cOwn (α := Int) 3 v92z ([(0 : Int)]), cOwn (α := Raw 2) 60 u0_30 rr1_31, cRo Bs2_32, cOwn (α := Int) 3 v81z ([(0 : Int), (2 : Int), (4 : Int), (5 : Int)]), cOwn (α := Int) 3 v79z ([(0 : Int)]), cOwn (α := Raw 2) 60 u0_25 rr1_26, cRo Bs2_27, cRo Bs_24, cRo Bs_23, cRo Bs_22, cRo Bs_21, cRo Bs_20, cOwn (α := Int) 3 v45z ([(0 : Int)]), cOwn (α := Raw 2) 60 u0_16 rr1_17, cRo Bs2_18, cRo Bs_15, cOwn (α := Int) 3 v32z ([(1 : Int)]), cOwn (α := Raw 2) 60 u0_11 rr1_12, cRo Bs2_13, cRo Bs_10, cOwn (α := Int) 3 v19z ([(0 : Int)]), cOwn (α := Raw 2) 60 u0_6 rr1_7, cRo Bs2_8, cRo Bs_5, cOwn (α := Note) 30 v6z ([(⟨(0 : Int), (2 : Int), (7 : Int)⟩ : Note), (⟨(1 : Int), (0 : Int), (9 : Int)⟩ : Note)]), cOwn (α := Raw 2) 60 u0_1 rr1_2, cRo Bs2_3]) H rfl)) ?_
 rintro vq w109z ⟨r03, r13, u0_39, hr110z, hvq, H2_⟩
 subst hr110z
 subst vq
 try dsimp only at hM
 replace H : St w w109z [cOwn (α := Int) 3 u0_39 r03, cOwn (α := Int) 3 v105z ([(1 : Int)]), cOwn (α := Raw 2) 60 u0_35 rr1_36, cRo Bs2_37, cOwn (α := Int) 3 v94z ([(0 : Int), (2 : Int), (4 : Int)]), cOwn (α := Int) 3 v92z ([(0 : Int)]), cOwn (α := Raw 2) 60 u0_30 rr1_31, cRo Bs2_32, cOwn (α := Int) 3 v81z ([(0 : Int), (2 : Int), (4 : Int), (5 : Int)]), cOwn (α := Int) 3 v79z ([(0 : Int)]), cOwn (α := Raw 2) 60 u0_25 rr1_26, cRo Bs2_27, cRo Bs_24, cRo Bs_23, cRo Bs_22, cRo Bs_21, cRo Bs_20, cOwn (α := Int) 3 v45z ([(0 : Int)]), cOwn (α := Raw 2) 60 u0_16 rr1_17, cRo Bs2_18, cRo Bs_15, cOwn (α := Int) 3 v32z ([(1 : Int)]), cOwn (α := Raw 2) 60 u0_11 rr1_12, cRo Bs2_13, cRo Bs_10, cOwn (α := Int) 3 v19z ([(0 : Int)]), cOwn (α := Raw 2) 60 u0_6 rr1_7, cRo Bs2_8, cRo Bs_5, cOwn (α := Note) 30 v6z ([(⟨(0 : Int), (2 : Int), (7 : Int)⟩ : Note), (⟨(1 : Int), (0 : Int), (9 : Int)⟩ : Note)]), cOwn (α := Raw 2) 60 u0_1 rr1_2, cRo Bs2_3] R := H.back H2_ rfl
 clear H2_
 refine sM (.tuple #[u0_39, I r13]) rfl <| sX [u0_39, I r13] u0_39 rfl rfl <| sX [u0_39, I r13] (I r13) rfl rfl <| sA u0_39 rfl <| sA (I r13) rfl <| s_nil <| sQ rfl ?_
 obtain ⟨r112z, hx111z, hM⟩ := M.e_bind hM
 refine s_call cf79 [] rfl (nilometerlaw13_Six_ok hx111z _ (St.give (T := [cOwn (α := Int) 3 u0_39 r03, cOwn (α := Int) 3 v105z ([(1 : Int)]), cOwn (α := Raw 2) 60 u0_35 rr1_36, cRo Bs2_37, cOwn (α := Int) 3 v94z ([(0 : Int), (2 : Int), (4 : Int)]), cOwn (α := Int) 3 v92z ([(0 : Int)]), cOwn (α := Raw 2) 60 u0_30 rr1_31, cRo Bs2_32, cOwn (α := Int) 3 v81z ([(0 : Int), (2 : Int), (4 : Int), (5 : Int)]), cOwn (α := Int) 3 v79z ([(0 : Int)]), cOwn (α := Raw 2) 60 u0_25 rr1_26, cRo Bs2_27, cRo Bs_24, cRo Bs_23, cRo Bs_22, cRo Bs_21, cRo Bs_20, cOwn (α := Int) 3 v45z ([(0 : Int)]), cOwn (α := Raw 2) 60 u0_16 rr1_17, cRo Bs2_18, cRo Bs_15, cOwn (α := Int) 3 v32z ([(1 : Int)]), cOwn (α := Raw 2) 60 u0_11 rr1_12, cRo Bs2_13, cRo Bs_10, cOwn (α := Int) 3 v19z ([(0 : Int)]), cOwn (α := Raw 2) 60 u0_6 rr1_7, cRo Bs2_8, cRo Bs_5, cOwn (α := Note) 30 v6z ([(⟨(0 : Int), (2 : Int), (7 : Int)⟩ : Note), (⟨(1 : Int), (0 : Int), (9 : Int)⟩ : Note)]), cOwn (α := Raw 2) 60 u0_1 rr1_2, cRo Bs2_3]) H rfl)) ?_
 rintro vq w113z ⟨r9, u0_40, rr1_41, Bs2_42, hr114z, hvq, H2_, hf115z⟩
 subst hr114z
 subst vq
 try dsimp only at hM
 replace H : St w w113z [cOwn (α := Raw 2) 60 u0_40 rr1_41, cRo Bs2_42, cOwn (α := Int) 3 u0_39 r03, cOwn (α := Int) 3 v105z ([(1 : Int)]), cOwn (α := Raw 2) 60 u0_35 rr1_36, cRo Bs2_37, cOwn (α := Int) 3 v94z ([(0 : Int), (2 : Int), (4 : Int)]), cOwn (α := Int) 3 v92z ([(0 : Int)]), cOwn (α := Raw 2) 60 u0_30 rr1_31, cRo Bs2_32, cOwn (α := Int) 3 v81z ([(0 : Int), (2 : Int), (4 : Int), (5 : Int)]), cOwn (α := Int) 3 v79z ([(0 : Int)]), cOwn (α := Raw 2) 60 u0_25 rr1_26, cRo Bs2_27, cRo Bs_24, cRo Bs_23, cRo Bs_22, cRo Bs_21, cRo Bs_20, cOwn (α := Int) 3 v45z ([(0 : Int)]), cOwn (α := Raw 2) 60 u0_16 rr1_17, cRo Bs2_18, cRo Bs_15, cOwn (α := Int) 3 v32z ([(1 : Int)]), cOwn (α := Raw 2) 60 u0_11 rr1_12, cRo Bs2_13, cRo Bs_10, cOwn (α := Int) 3 v19z ([(0 : Int)]), cOwn (α := Raw 2) 60 u0_6 rr1_7, cRo Bs2_8, cRo Bs_5, cOwn (α := Note) 30 v6z ([(⟨(0 : Int), (2 : Int), (7 : Int)⟩ : Note), (⟨(1 : Int), (0 : Int), (9 : Int)⟩ : Note)]), cOwn (α := Raw 2) 60 u0_1 rr1_2, cRo Bs2_3] R := H.back H2_ rfl
 clear H2_
 refine t_bs (α := Int) T34 [I 1] [(1 : Int)] H rfl (.cons rfl (Flat.rep_enc _ (1 : Int)) <| .nil) rfl rfl rfl ?_
 intro v116z w117z H
 obtain ⟨r119z, hx118z, hM⟩ := M.e_bind hM
 refine s_call cf65 [u0_40, v116z, I 4] rfl (notes_Lines_ok r9 ([(1 : Int)]) 4 (Reads.sup (Reads.of (k := 1) rfl ownLe) (Reads.of (k := 2) rfl roLe)) (rowSl rfl (H.get (k := 1) rfl) (roLe _ (H.get (k := 2) rfl)) hf115z) (Reads.of (k := 0) rfl ownLe) (ownSl (H.get (k := 0) rfl)) hx118z _ (St.give (T := [cOwn (α := Int) 3 v116z ([(1 : Int)]), cOwn (α := Raw 2) 60 u0_40 rr1_41, cRo Bs2_42, cOwn (α := Int) 3 u0_39 r03, cOwn (α := Int) 3 v105z ([(1 : Int)]), cOwn (α := Raw 2) 60 u0_35 rr1_36, cRo Bs2_37, cOwn (α := Int) 3 v94z ([(0 : Int), (2 : Int), (4 : Int)]), cOwn (α := Int) 3 v92z ([(0 : Int)]), cOwn (α := Raw 2) 60 u0_30 rr1_31, cRo Bs2_32, cOwn (α := Int) 3 v81z ([(0 : Int), (2 : Int), (4 : Int), (5 : Int)]), cOwn (α := Int) 3 v79z ([(0 : Int)]), cOwn (α := Raw 2) 60 u0_25 rr1_26, cRo Bs2_27, cRo Bs_24, cRo Bs_23, cRo Bs_22, cRo Bs_21, cRo Bs_20, cOwn (α := Int) 3 v45z ([(0 : Int)]), cOwn (α := Raw 2) 60 u0_16 rr1_17, cRo Bs2_18, cRo Bs_15, cOwn (α := Int) 3 v32z ([(1 : Int)]), cOwn (α := Raw 2) 60 u0_11 rr1_12, cRo Bs2_13, cRo Bs_10, cOwn (α := Int) 3 v19z ([(0 : Int)]), cOwn (α := Raw 2) 60 u0_6 rr1_7, cRo Bs2_8, cRo Bs_5, cOwn (α := Note) 30 v6z ([(⟨(0 : Int), (2 : Int), (7 : Int)⟩ : Note), (⟨(1 : Int), (0 : Int), (9 : Int)⟩ : Note)]), cOwn (α := Raw 2) 60 u0_1 rr1_2, cRo Bs2_3]) H rfl)) ?_
 rintro vq w120z ⟨r04, r14, u0_44, rr1_45, Bs2_46, hr121z, hvq, H2_, hf122z⟩
 subst hr121z
 subst vq
 try dsimp only at hM
 replace H : St w w120z [cOwn (α := Raw 0) 34 u0_44 rr1_45, cRo Bs2_46, cOwn (α := Int) 3 v116z ([(1 : Int)]), cOwn (α := Raw 2) 60 u0_40 rr1_41, cRo Bs2_42, cOwn (α := Int) 3 u0_39 r03, cOwn (α := Int) 3 v105z ([(1 : Int)]), cOwn (α := Raw 2) 60 u0_35 rr1_36, cRo Bs2_37, cOwn (α := Int) 3 v94z ([(0 : Int), (2 : Int), (4 : Int)]), cOwn (α := Int) 3 v92z ([(0 : Int)]), cOwn (α := Raw 2) 60 u0_30 rr1_31, cRo Bs2_32, cOwn (α := Int) 3 v81z ([(0 : Int), (2 : Int), (4 : Int), (5 : Int)]), cOwn (α := Int) 3 v79z ([(0 : Int)]), cOwn (α := Raw 2) 60 u0_25 rr1_26, cRo Bs2_27, cRo Bs_24, cRo Bs_23, cRo Bs_22, cRo Bs_21, cRo Bs_20, cOwn (α := Int) 3 v45z ([(0 : Int)]), cOwn (α := Raw 2) 60 u0_16 rr1_17, cRo Bs2_18, cRo Bs_15, cOwn (α := Int) 3 v32z ([(1 : Int)]), cOwn (α := Raw 2) 60 u0_11 rr1_12, cRo Bs2_13, cRo Bs_10, cOwn (α := Int) 3 v19z ([(0 : Int)]), cOwn (α := Raw 2) 60 u0_6 rr1_7, cRo Bs2_8, cRo Bs_5, cOwn (α := Note) 30 v6z ([(⟨(0 : Int), (2 : Int), (7 : Int)⟩ : Note), (⟨(1 : Int), (0 : Int), (9 : Int)⟩ : Note)]), cOwn (α := Raw 2) 60 u0_1 rr1_2, cRo Bs2_3] R := H.back H2_ rfl
 clear H2_
 refine sM (.tuple #[u0_44, I r14]) rfl <| sX [u0_44, I r14] u0_44 rfl rfl <| sX [u0_44, I r14] (I r14) rfl rfl <| sA u0_44 rfl <| sA (I r14) rfl <| s_nil <| sQ rfl ?_
 obtain ⟨r124z, hx123z, hM⟩ := M.e_bind hM
 refine s_call cf79 [] rfl (nilometerlaw13_Six_ok hx123z _ (St.give (T := [cOwn (α := Raw 0) 34 u0_44 rr1_45, cRo Bs2_46, cOwn (α := Int) 3 v116z ([(1 : Int)]), cOwn (α := Raw 2) 60 u0_40 rr1_41, cRo Bs2_42, cOwn (α := Int) 3 u0_39 r03, cOwn (α := Int) 3 v105z ([(1 : Int)]), cOwn (α := Raw 2) 60 u0_35 rr1_36, cRo Bs2_37, cOwn (α := Int) 3 v94z ([(0 : Int), (2 : Int), (4 : Int)]), cOwn (α := Int) 3 v92z ([(0 : Int)]), cOwn (α := Raw 2) 60 u0_30 rr1_31, cRo Bs2_32, cOwn (α := Int) 3 v81z ([(0 : Int), (2 : Int), (4 : Int), (5 : Int)]), cOwn (α := Int) 3 v79z ([(0 : Int)]), cOwn (α := Raw 2) 60 u0_25 rr1_26, cRo Bs2_27, cRo Bs_24, cRo Bs_23, cRo Bs_22, cRo Bs_21, cRo Bs_20, cOwn (α := Int) 3 v45z ([(0 : Int)]), cOwn (α := Raw 2) 60 u0_16 rr1_17, cRo Bs2_18, cRo Bs_15, cOwn (α := Int) 3 v32z ([(1 : Int)]), cOwn (α := Raw 2) 60 u0_11 rr1_12, cRo Bs2_13, cRo Bs_10, cOwn (α := Int) 3 v19z ([(0 : Int)]), cOwn (α := Raw 2) 60 u0_6 rr1_7, cRo Bs2_8, cRo Bs_5, cOwn (α := Note) 30 v6z ([(⟨(0 : Int), (2 : Int), (7 : Int)⟩ : Note), (⟨(1 : Int), (0 : Int), (9 : Int)⟩ : Note)]), cOwn (α := Raw 2) 60 u0_1 rr1_2, cRo Bs2_3]) H rfl)) ?_
 rintro vq w125z ⟨r10, u0_47, rr1_48, Bs2_49, hr126z, hvq, H2_, hf127z⟩
 subst hr126z
 subst vq
 try dsimp only at hM
 replace H : St w w125z [cOwn (α := Raw 2) 60 u0_47 rr1_48, cRo Bs2_49, cOwn (α := Raw 0) 34 u0_44 rr1_45, cRo Bs2_46, cOwn (α := Int) 3 v116z ([(1 : Int)]), cOwn (α := Raw 2) 60 u0_40 rr1_41, cRo Bs2_42, cOwn (α := Int) 3 u0_39 r03, cOwn (α := Int) 3 v105z ([(1 : Int)]), cOwn (α := Raw 2) 60 u0_35 rr1_36, cRo Bs2_37, cOwn (α := Int) 3 v94z ([(0 : Int), (2 : Int), (4 : Int)]), cOwn (α := Int) 3 v92z ([(0 : Int)]), cOwn (α := Raw 2) 60 u0_30 rr1_31, cRo Bs2_32, cOwn (α := Int) 3 v81z ([(0 : Int), (2 : Int), (4 : Int), (5 : Int)]), cOwn (α := Int) 3 v79z ([(0 : Int)]), cOwn (α := Raw 2) 60 u0_25 rr1_26, cRo Bs2_27, cRo Bs_24, cRo Bs_23, cRo Bs_22, cRo Bs_21, cRo Bs_20, cOwn (α := Int) 3 v45z ([(0 : Int)]), cOwn (α := Raw 2) 60 u0_16 rr1_17, cRo Bs2_18, cRo Bs_15, cOwn (α := Int) 3 v32z ([(1 : Int)]), cOwn (α := Raw 2) 60 u0_11 rr1_12, cRo Bs2_13, cRo Bs_10, cOwn (α := Int) 3 v19z ([(0 : Int)]), cOwn (α := Raw 2) 60 u0_6 rr1_7, cRo Bs2_8, cRo Bs_5, cOwn (α := Note) 30 v6z ([(⟨(0 : Int), (2 : Int), (7 : Int)⟩ : Note), (⟨(1 : Int), (0 : Int), (9 : Int)⟩ : Note)]), cOwn (α := Raw 2) 60 u0_1 rr1_2, cRo Bs2_3] R := H.back H2_ rfl
 clear H2_
 refine t_bs (α := Int) T34 [I 1] [(1 : Int)] H rfl (.cons rfl (Flat.rep_enc _ (1 : Int)) <| .nil) rfl rfl rfl ?_
 intro v128z w129z H
 obtain ⟨r131z, hx130z, hM⟩ := M.e_bind hM
 refine s_call cf64 [u0_47, v128z, I 3] rfl (notes_Freeze_ok r10 ([(1 : Int)]) 3 (Reads.sup (Reads.of (k := 1) rfl ownLe) (Reads.of (k := 2) rfl roLe)) (rowSl rfl (H.get (k := 1) rfl) (roLe _ (H.get (k := 2) rfl)) hf127z) (Reads.of (k := 0) rfl ownLe) (ownSl (H.get (k := 0) rfl)) hx130z _ (St.give (T := [cOwn (α := Int) 3 v128z ([(1 : Int)]), cOwn (α := Raw 2) 60 u0_47 rr1_48, cRo Bs2_49, cOwn (α := Raw 0) 34 u0_44 rr1_45, cRo Bs2_46, cOwn (α := Int) 3 v116z ([(1 : Int)]), cOwn (α := Raw 2) 60 u0_40 rr1_41, cRo Bs2_42, cOwn (α := Int) 3 u0_39 r03, cOwn (α := Int) 3 v105z ([(1 : Int)]), cOwn (α := Raw 2) 60 u0_35 rr1_36, cRo Bs2_37, cOwn (α := Int) 3 v94z ([(0 : Int), (2 : Int), (4 : Int)]), cOwn (α := Int) 3 v92z ([(0 : Int)]), cOwn (α := Raw 2) 60 u0_30 rr1_31, cRo Bs2_32, cOwn (α := Int) 3 v81z ([(0 : Int), (2 : Int), (4 : Int), (5 : Int)]), cOwn (α := Int) 3 v79z ([(0 : Int)]), cOwn (α := Raw 2) 60 u0_25 rr1_26, cRo Bs2_27, cRo Bs_24, cRo Bs_23, cRo Bs_22, cRo Bs_21, cRo Bs_20, cOwn (α := Int) 3 v45z ([(0 : Int)]), cOwn (α := Raw 2) 60 u0_16 rr1_17, cRo Bs2_18, cRo Bs_15, cOwn (α := Int) 3 v32z ([(1 : Int)]), cOwn (α := Raw 2) 60 u0_11 rr1_12, cRo Bs2_13, cRo Bs_10, cOwn (α := Int) 3 v19z ([(0 : Int)]), cOwn (α := Raw 2) 60 u0_6 rr1_7, cRo Bs2_8, cRo Bs_5, cOwn (α := Note) 30 v6z ([(⟨(0 : Int), (2 : Int), (7 : Int)⟩ : Note), (⟨(1 : Int), (0 : Int), (9 : Int)⟩ : Note)]), cOwn (α := Raw 2) 60 u0_1 rr1_2, cRo Bs2_3]) H rfl)) ?_
 rintro vq w132z ⟨r05, r15, u0_51, hr133z, hvq, H2_⟩
 subst hr133z
 subst vq
 try dsimp only at hM
 replace H : St w w132z [cOwn (α := Int) 3 u0_51 r05, cOwn (α := Int) 3 v128z ([(1 : Int)]), cOwn (α := Raw 2) 60 u0_47 rr1_48, cRo Bs2_49, cOwn (α := Raw 0) 34 u0_44 rr1_45, cRo Bs2_46, cOwn (α := Int) 3 v116z ([(1 : Int)]), cOwn (α := Raw 2) 60 u0_40 rr1_41, cRo Bs2_42, cOwn (α := Int) 3 u0_39 r03, cOwn (α := Int) 3 v105z ([(1 : Int)]), cOwn (α := Raw 2) 60 u0_35 rr1_36, cRo Bs2_37, cOwn (α := Int) 3 v94z ([(0 : Int), (2 : Int), (4 : Int)]), cOwn (α := Int) 3 v92z ([(0 : Int)]), cOwn (α := Raw 2) 60 u0_30 rr1_31, cRo Bs2_32, cOwn (α := Int) 3 v81z ([(0 : Int), (2 : Int), (4 : Int), (5 : Int)]), cOwn (α := Int) 3 v79z ([(0 : Int)]), cOwn (α := Raw 2) 60 u0_25 rr1_26, cRo Bs2_27, cRo Bs_24, cRo Bs_23, cRo Bs_22, cRo Bs_21, cRo Bs_20, cOwn (α := Int) 3 v45z ([(0 : Int)]), cOwn (α := Raw 2) 60 u0_16 rr1_17, cRo Bs2_18, cRo Bs_15, cOwn (α := Int) 3 v32z ([(1 : Int)]), cOwn (α := Raw 2) 60 u0_11 rr1_12, cRo Bs2_13, cRo Bs_10, cOwn (α := Int) 3 v19z ([(0 : Int)]), cOwn (α := Raw 2) 60 u0_6 rr1_7, cRo Bs2_8, cRo Bs_5, cOwn (α := Note) 30 v6z ([(⟨(0 : Int), (2 : Int), (7 : Int)⟩ : Note), (⟨(1 : Int), (0 : Int), (9 : Int)⟩ : Note)]), cOwn (α := Raw 2) 60 u0_1 rr1_2, cRo Bs2_3] R := H.back H2_ rfl
 clear H2_
 refine sM (.tuple #[u0_51, I r15]) rfl <| sX [u0_51, I r15] u0_51 rfl rfl <| sX [u0_51, I r15] (I r15) rfl rfl <| sA u0_51 rfl <| sA (I r15) rfl <| s_nil <| W.seq <| sQ rfl <| sM (I r1) rfl <| sC r1 0 (r1 != 0) rfl rfl rfl <| sM (B (r1 != 0)) rfl ?_
 refine g_val (!(r1 != 0)) (gy_f rfl) (fun hg => x_mv (v := I r12) rfl) <| g_val (!(r1 != 0)) (gy_f rfl) (fun hg => x_cmp (kd := .i64) (a := r12) (b := 0) (r := r12 != 0) (gd_of (c := !(r1 != 0)) hg (I r12)) rfl rfl) <| s_val (x_por (b := r1 != 0) (r := r12 != 0) rfl rfl (fun hb => gd_of (c := !(r1 != 0)) (by first | exact hb | (rw [hb]; rfl) | simp_all) (B (r12 != 0)))) <| sM (B ((r1 != 0) || (r12 != 0))) rfl <| g_val (!((r1 != 0) || (r12 != 0))) (gy_f rfl) (fun hg => x_mv (v := I r13) rfl) <| g_val (!((r1 != 0) || (r12 != 0))) (gy_f rfl) (fun hg => x_cmp (kd := .i64) (a := r13) (b := 0) (r := r13 != 0) (gd_of (c := !((r1 != 0) || (r12 != 0))) hg (I r13)) rfl rfl) <| s_val (x_por (b := ((r1 != 0) || (r12 != 0))) (r := r13 != 0) rfl rfl (fun hb => gd_of (c := !((r1 != 0) || (r12 != 0))) (by first | exact hb | (rw [hb]; rfl) | simp_all) (B (r13 != 0)))) <| sM (B (((r1 != 0) || (r12 != 0)) || (r13 != 0))) rfl <| g_val (!(((r1 != 0) || (r12 != 0)) || (r13 != 0))) (gy_f rfl) (fun hg => x_mv (v := I r14) rfl) <| g_val (!(((r1 != 0) || (r12 != 0)) || (r13 != 0))) (gy_f rfl) (fun hg => x_cmp (kd := .i64) (a := r14) (b := 0) (r := r14 != 0) (gd_of (c := !(((r1 != 0) || (r12 != 0)) || (r13 != 0))) hg (I r14)) rfl rfl) <| s_val (x_por (b := (((r1 != 0) || (r12 != 0)) || (r13 != 0))) (r := r14 != 0) rfl rfl (fun hb => gd_of (c := !(((r1 != 0) || (r12 != 0)) || (r13 != 0))) (by first | exact hb | (rw [hb]; rfl) | simp_all) (B (r14 != 0)))) <| sM (B ((((r1 != 0) || (r12 != 0)) || (r13 != 0)) || (r14 != 0))) rfl ?_
 refine g_val (!((((r1 != 0) || (r12 != 0)) || (r13 != 0)) || (r14 != 0))) (gy_f rfl) (fun hg => x_mv (v := I r15) rfl) <| g_val (!((((r1 != 0) || (r12 != 0)) || (r13 != 0)) || (r14 != 0))) (gy_f rfl) (fun hg => x_cmp (kd := .i64) (a := r15) (b := 5) (r := r15 != 5) (gd_of (c := !((((r1 != 0) || (r12 != 0)) || (r13 != 0)) || (r14 != 0))) hg (I r15)) rfl rfl) <| s_val (x_por (b := ((((r1 != 0) || (r12 != 0)) || (r13 != 0)) || (r14 != 0))) (r := r15 != 5) rfl rfl (fun hb => gd_of (c := !((((r1 != 0) || (r12 != 0)) || (r13 != 0)) || (r14 != 0))) (by first | exact hb | (rw [hb]; rfl) | simp_all) (B (r15 != 5)))) <| sM (B (((((r1 != 0) || (r12 != 0)) || (r13 != 0)) || (r14 != 0)) || (r15 != 5))) rfl <| g_val (!(((((r1 != 0) || (r12 != 0)) || (r13 != 0)) || (r14 != 0)) || (r15 != 5))) (gy_f rfl) (fun hg => x_mv (v := B r0) rfl) <| g_val (!(((((r1 != 0) || (r12 != 0)) || (r13 != 0)) || (r14 != 0)) || (r15 != 5))) (gy_f rfl) (fun hg => x_not (b := r0) (gd_of (c := !(((((r1 != 0) || (r12 != 0)) || (r13 != 0)) || (r14 != 0)) || (r15 != 5))) hg (B r0))) <| s_val (x_por (b := (((((r1 != 0) || (r12 != 0)) || (r13 != 0)) || (r14 != 0)) || (r15 != 5))) (r := !r0) rfl rfl (fun hb => gd_of (c := !(((((r1 != 0) || (r12 != 0)) || (r13 != 0)) || (r14 != 0)) || (r15 != 5))) (by first | exact hb | (rw [hb]; rfl) | simp_all) (B (!r0)))) <| sM (B ((((((r1 != 0) || (r12 != 0)) || (r13 != 0)) || (r14 != 0)) || (r15 != 5)) || (!r0))) rfl <| g_val (!((((((r1 != 0) || (r12 != 0)) || (r13 != 0)) || (r14 != 0)) || (r15 != 5)) || (!r0))) (gy_f rfl) (fun hg => x_mv (v := B r02) rfl) <| s_val (x_por (b := ((((((r1 != 0) || (r12 != 0)) || (r13 != 0)) || (r14 != 0)) || (r15 != 5)) || (!r0))) (r := r02) rfl rfl (fun hb => gd_of (c := !((((((r1 != 0) || (r12 != 0)) || (r13 != 0)) || (r14 != 0)) || (r15 != 5)) || (!r0))) (by first | exact hb | (rw [hb]; rfl) | simp_all) (B r02))) <| sM (B (((((((r1 != 0) || (r12 != 0)) || (r13 != 0)) || (r14 != 0)) || (r15 != 5)) || (!r0)) || r02)) rfl <| g_val (!(((((((r1 != 0) || (r12 != 0)) || (r13 != 0)) || (r14 != 0)) || (r15 != 5)) || (!r0)) || r02)) (gy_f rfl) (fun hg => x_mv (v := u0_39) rfl) ?_
 refine t_gbs (α := Int) T34 (!(((((((r1 != 0) || (r12 != 0)) || (r13 != 0)) || (r14 != 0)) || (r15 != 5)) || (!r0)) || r02)) (gy_f rfl) [I 2, I 3] [(2 : Int), (3 : Int)] H (fun _ => rfl) (.cons rfl (Flat.rep_enc _ _) <| .cons rfl (Flat.rep_enc _ _) <| .nil) rfl rfl rfl ?_
 intro v134z Bs_52 w135z H hf136z
 obtain ⟨s5, hx137z, hM⟩ := M.e_bind hM
 replace hx137z := M.e_pure hx137z
 refine t_gcall (!(((((((r1 != 0) || (r12 != 0)) || (r13 != 0)) || (r14 != 0)) || (r15 != 5)) || (!r0)) || r02)) (gy_f rfl) cf25 (B s5) (fun _ => [u0_39, v134z]) (fun hg => lst2 (gd_of (c := !(((((((r1 != 0) || (r12 != 0)) || (r13 != 0)) || (r14 != 0)) || (r15 != 5)) || (!r0)) || r02)) hg (u0_39)) (gd_of (c := !(((((((r1 != 0) || (r12 != 0)) || (r13 != 0)) || (r14 != 0)) || (r15 != 5)) || (!r0)) || r02)) hg (v134z))) H (fun hg => Ret.mono (same_int _ ((ownSl (H.get (k := 10) rfl)).mono (ownLe _ (H.get (k := 10) rfl))) ((hf136z hg).mono (roLe _ (H.get (k := 0) rfl)))) fun v_ w_ ⟨hv_, hx_⟩ => ⟨hv_.trans (congrArg B hx137z), H.ext hx_⟩) ?_
 intro w138z H
 refine g_val (!(((((((r1 != 0) || (r12 != 0)) || (r13 != 0)) || (r14 != 0)) || (r15 != 5)) || (!r0)) || r02)) (gy_f rfl) (fun hg => x_not (b := s5) (gd_of (c := !(((((((r1 != 0) || (r12 != 0)) || (r13 != 0)) || (r14 != 0)) || (r15 != 5)) || (!r0)) || r02)) hg (B s5))) <| s_val (x_por (b := (((((((r1 != 0) || (r12 != 0)) || (r13 != 0)) || (r14 != 0)) || (r15 != 5)) || (!r0)) || r02)) (r := !s5) rfl rfl (fun hb => gd_of (c := !(((((((r1 != 0) || (r12 != 0)) || (r13 != 0)) || (r14 != 0)) || (r15 != 5)) || (!r0)) || r02)) (by first | exact hb | (rw [hb]; rfl) | simp_all) (B (!s5)))) <| sM (B ((((((((r1 != 0) || (r12 != 0)) || (r13 != 0)) || (r14 != 0)) || (r15 != 5)) || (!r0)) || r02) || (!s5))) rfl <| g_val (!((((((((r1 != 0) || (r12 != 0)) || (r13 != 0)) || (r14 != 0)) || (r15 != 5)) || (!r0)) || r02) || (!s5))) (gy_f rfl) (fun hg => x_mv (v := u0_44) rfl) <| g_val (!((((((((r1 != 0) || (r12 != 0)) || (r13 != 0)) || (r14 != 0)) || (r15 != 5)) || (!r0)) || r02) || (!s5))) (gy_f rfl) (fun hg => x_lenS T73.und (gd_of (c := !((((((((r1 != 0) || (r12 != 0)) || (r13 != 0)) || (r14 != 0)) || (r15 != 5)) || (!r0)) || r02) || (!s5))) hg (u0_44)) (rowSl rfl (H.get (k := 5) rfl) (roLe _ (H.get (k := 6) rfl)) hf122z)) <| g_val (!((((((((r1 != 0) || (r12 != 0)) || (r13 != 0)) || (r14 != 0)) || (r15 != 5)) || (!r0)) || r02) || (!s5))) (gy_f rfl) (fun hg => x_cmp (kd := .i64) (a := (r04.length : Int)) (b := 2) (r := (r04.length : Int) != 2) (gd_of (c := !((((((((r1 != 0) || (r12 != 0)) || (r13 != 0)) || (r14 != 0)) || (r15 != 5)) || (!r0)) || r02) || (!s5))) hg (I (r04.length : Int))) rfl rfl) <| s_val (x_por (b := ((((((((r1 != 0) || (r12 != 0)) || (r13 != 0)) || (r14 != 0)) || (r15 != 5)) || (!r0)) || r02) || (!s5))) (r := (r04.length : Int) != 2) rfl rfl (fun hb => gd_of (c := !((((((((r1 != 0) || (r12 != 0)) || (r13 != 0)) || (r14 != 0)) || (r15 != 5)) || (!r0)) || r02) || (!s5))) (by first | exact hb | (rw [hb]; rfl) | simp_all) (B ((r04.length : Int) != 2)))) <| s_nil ?_
 refine W.cond (((((((((r1 != 0) || (r12 != 0)) || (r13 != 0)) || (r14 != 0)) || (r15 != 5)) || (!r0)) || r02) || (!s5)) || ((r04.length : Int) != 2)) rfl (fun c140z => ?_) (fun c140z => ?_)
 ·replace hM := M.e_t hM c140z
  refine sQ rfl <| sA (B false) rfl <| s_nil ?_
  refine W.ret ?_
  have hr_ := M.e_pure hM
  exact ⟨_, resE_tmp rfl, ⟨false, hr_, rfl, (H.pick [] (by decide) rfl)⟩⟩
 replace hM := M.e_f hM c140z
 refine W.skip <| sQ rfl ?_
 obtain ⟨r142z, hx141z, hM⟩ := M.e_bind hM
 refine s_call cf79 [] rfl (nilometerlaw13_Six_ok hx141z _ (St.give (T := [cRo Bs_52, cOwn (α := Int) 3 u0_51 r05, cOwn (α := Int) 3 v128z ([(1 : Int)]), cOwn (α := Raw 2) 60 u0_47 rr1_48, cRo Bs2_49, cOwn (α := Raw 0) 34 u0_44 rr1_45, cRo Bs2_46, cOwn (α := Int) 3 v116z ([(1 : Int)]), cOwn (α := Raw 2) 60 u0_40 rr1_41, cRo Bs2_42, cOwn (α := Int) 3 u0_39 r03, cOwn (α := Int) 3 v105z ([(1 : Int)]), cOwn (α := Raw 2) 60 u0_35 rr1_36, cRo Bs2_37, cOwn (α := Int) 3 v94z ([(0 : Int), (2 : Int), (4 : Int)]), cOwn (α := Int) 3 v92z ([(0 : Int)]), cOwn (α := Raw 2) 60 u0_30 rr1_31, cRo Bs2_32, cOwn (α := Int) 3 v81z ([(0 : Int), (2 : Int), (4 : Int), (5 : Int)]), cOwn (α := Int) 3 v79z ([(0 : Int)]), cOwn (α := Raw 2) 60 u0_25 rr1_26, cRo Bs2_27, cRo Bs_24, cRo Bs_23, cRo Bs_22, cRo Bs_21, cRo Bs_20, cOwn (α := Int) 3 v45z ([(0 : Int)]), cOwn (α := Raw 2) 60 u0_16 rr1_17, cRo Bs2_18, cRo Bs_15, cOwn (α := Int) 3 v32z ([(1 : Int)]), cOwn (α := Raw 2) 60 u0_11 rr1_12, cRo Bs2_13, cRo Bs_10, cOwn (α := Int) 3 v19z ([(0 : Int)]), cOwn (α := Raw 2) 60 u0_6 rr1_7, cRo Bs2_8, cRo Bs_5, cOwn (α := Note) 30 v6z ([(⟨(0 : Int), (2 : Int), (7 : Int)⟩ : Note), (⟨(1 : Int), (0 : Int), (9 : Int)⟩ : Note)]), cOwn (α := Raw 2) 60 u0_1 rr1_2, cRo Bs2_3]) H rfl)) ?_
 rintro vq w143z ⟨r11, u0_53, rr1_54, Bs2_55, hr144z, hvq, H2_, hf145z⟩
 subst hr144z
 subst vq
 try dsimp only at hM
 replace H : St w w143z [cOwn (α := Raw 2) 60 u0_53 rr1_54, cRo Bs2_55, cRo Bs_52, cOwn (α := Int) 3 u0_51 r05, cOwn (α := Int) 3 v128z ([(1 : Int)]), cOwn (α := Raw 2) 60 u0_47 rr1_48, cRo Bs2_49, cOwn (α := Raw 0) 34 u0_44 rr1_45, cRo Bs2_46, cOwn (α := Int) 3 v116z ([(1 : Int)]), cOwn (α := Raw 2) 60 u0_40 rr1_41, cRo Bs2_42, cOwn (α := Int) 3 u0_39 r03, cOwn (α := Int) 3 v105z ([(1 : Int)]), cOwn (α := Raw 2) 60 u0_35 rr1_36, cRo Bs2_37, cOwn (α := Int) 3 v94z ([(0 : Int), (2 : Int), (4 : Int)]), cOwn (α := Int) 3 v92z ([(0 : Int)]), cOwn (α := Raw 2) 60 u0_30 rr1_31, cRo Bs2_32, cOwn (α := Int) 3 v81z ([(0 : Int), (2 : Int), (4 : Int), (5 : Int)]), cOwn (α := Int) 3 v79z ([(0 : Int)]), cOwn (α := Raw 2) 60 u0_25 rr1_26, cRo Bs2_27, cRo Bs_24, cRo Bs_23, cRo Bs_22, cRo Bs_21, cRo Bs_20, cOwn (α := Int) 3 v45z ([(0 : Int)]), cOwn (α := Raw 2) 60 u0_16 rr1_17, cRo Bs2_18, cRo Bs_15, cOwn (α := Int) 3 v32z ([(1 : Int)]), cOwn (α := Raw 2) 60 u0_11 rr1_12, cRo Bs2_13, cRo Bs_10, cOwn (α := Int) 3 v19z ([(0 : Int)]), cOwn (α := Raw 2) 60 u0_6 rr1_7, cRo Bs2_8, cRo Bs_5, cOwn (α := Note) 30 v6z ([(⟨(0 : Int), (2 : Int), (7 : Int)⟩ : Note), (⟨(1 : Int), (0 : Int), (9 : Int)⟩ : Note)]), cOwn (α := Raw 2) 60 u0_1 rr1_2, cRo Bs2_3] R := H.back H2_ rfl
 clear H2_
 refine s_val (x_bld (ps := [(0, I 0), (1, I 3), (2, I 8)]) (zs := [I 0, I 0, I 0]) (L' := [I 0, I 3, I 8]) rfl Try.underlying30 Al30 rfl (Bd30 Try.underlying30) (.cons (cs := [I 0]) rfl rfl rfl rfl rfl <| .cons (cs := [I 3]) rfl rfl rfl rfl rfl <| .cons (cs := [I 8]) rfl rfl rfl rfl rfl <| .nil)) <| s_val (x_bld (ps := [(0, I 0), (1, I 2), (2, I 7)]) (zs := [I 0, I 0, I 0]) (L' := [I 0, I 2, I 7]) rfl Try.underlying30 Al30 rfl (Bd30 Try.underlying30) (.cons (cs := [I 0]) rfl rfl rfl rfl rfl <| .cons (cs := [I 2]) rfl rfl rfl rfl rfl <| .cons (cs := [I 7]) rfl rfl rfl rfl rfl <| .nil)) <| s_val (x_bld (ps := [(0, I 1), (2, I 9)]) (zs := [I 0, I 0, I 0]) (L' := [I 1, I 0, I 9]) rfl Try.underlying30 Al30 rfl (Bd30 Try.underlying30) (.cons (cs := [I 1]) rfl rfl rfl rfl rfl <| .cons (cs := [I 9]) rfl rfl rfl rfl rfl <| .nil)) ?_
 refine t_bs (α := Note) T23 [.agg #[I 0, I 3, I 8], .agg #[I 0, I 2, I 7], .agg #[I 1, I 0, I 9]] [(⟨(0 : Int), (3 : Int), (8 : Int)⟩ : Note), (⟨(0 : Int), (2 : Int), (7 : Int)⟩ : Note), (⟨(1 : Int), (0 : Int), (9 : Int)⟩ : Note)] H rfl (.cons rfl (Flat.rep_enc _ (⟨(0 : Int), (3 : Int), (8 : Int)⟩ : Note)) <| .cons rfl (Flat.rep_enc _ (⟨(0 : Int), (2 : Int), (7 : Int)⟩ : Note)) <| .cons rfl (Flat.rep_enc _ (⟨(1 : Int), (0 : Int), (9 : Int)⟩ : Note)) <| .nil) rfl rfl rfl ?_
 intro v146z w147z H
 refine s_val (x_bld (ps := [(0, I 2), (1, I 26)]) (zs := [I 0, I 0]) (L' := [I 2, I 26]) rfl Try.underlying33 Al33 rfl (Bd33 Try.underlying33) (.cons (cs := [I 2]) rfl rfl rfl rfl rfl <| .cons (cs := [I 26]) rfl rfl rfl rfl rfl <| .nil)) <| s_val (x_bld (ps := [(0, I 3), (1, I 10)]) (zs := [I 0, I 0]) (L' := [I 3, I 10]) rfl Try.underlying33 Al33 rfl (Bd33 Try.underlying33) (.cons (cs := [I 3]) rfl rfl rfl rfl rfl <| .cons (cs := [I 10]) rfl rfl rfl rfl rfl <| .nil)) ?_
 refine t_bs (α := Pub) T24 [.agg #[I 2, I 26], .agg #[I 3, I 10]] [(⟨(2 : Int), (26 : Int)⟩ : Pub), (⟨(3 : Int), (10 : Int)⟩ : Pub)] H rfl (.cons rfl (Flat.rep_enc _ (⟨(2 : Int), (26 : Int)⟩ : Pub)) <| .cons rfl (Flat.rep_enc _ (⟨(3 : Int), (10 : Int)⟩ : Pub)) <| .nil) rfl rfl rfl ?_
 intro v148z w149z H
 obtain ⟨⟨l5, e5⟩, hx153z, hM⟩ := M.e_bind hM
 obtain ⟨hq154z, hq155z⟩ := Prod.mk.inj (M.e_pure hx153z)
 try dsimp only at hM
 refine s_call cf26 [u0_53, v146z, v148z] rfl (by have hc_ := (Withdrawn_any _ ((rowSl rfl (H.get (k := 2) rfl) (roLe _ (H.get (k := 3) rfl)) hf145z).mono (Cells.sup_le (ownLe _ (H.get (k := 2) rfl)) (roLe _ (H.get (k := 3) rfl)))) ((ownSl (H.get (k := 1) rfl)).mono (ownLe _ (H.get (k := 1) rfl))) ((ownSl (H.get (k := 0) rfl)).mono (ownLe _ (H.get (k := 0) rfl)))); rw [hq154z, hq155z] at hc_; exact hc_) ?_
 rintro _ w150z ⟨u151z, rfl, hs152z, hx_⟩
 obtain ⟨Bs_58, H, hs152z⟩ := H.fresh hx_ hs152z
 clear hx_
 have hl_hs152z := hs152z.len_le
 refine sM (.tuple #[u151z, I e5]) rfl <| sX [u151z, I e5] u151z rfl rfl <| sX [u151z, I e5] (I e5) rfl rfl <| sA u151z rfl <| sA (I e5) rfl <| s_nil <| sQ rfl <| sM (I e5) rfl <| sC e5 0 (e5 == 0) rfl rfl rfl <| sM (B (e5 == 0)) rfl <| g_val (e5 == 0) (gy_t rfl) (fun hg => x_mv (v := u151z) rfl) ?_
 refine t_gbs (α := Int) T34 (e5 == 0) (gy_t rfl) [I 0] [(0 : Int)] H (fun _ => rfl) (.cons rfl (Flat.rep_enc _ _) <| .nil) rfl rfl rfl ?_
 intro v156z Bs_59 w157z H hf158z
 obtain ⟨s6, hx159z, hM⟩ := M.e_bind hM
 replace hx159z := M.e_pure hx159z
 refine t_gcall (e5 == 0) (gy_t rfl) cf25 (B s6) (fun _ => [u151z, v156z]) (fun hg => lst2 (gd_of (c := e5 == 0) hg (u151z)) (gd_of (c := e5 == 0) hg (v156z))) H (fun hg => Ret.mono (same_int _ (hs152z.mono (roLe _ (H.get (k := 1) rfl))) ((hf158z hg).mono (roLe _ (H.get (k := 0) rfl)))) fun v_ w_ ⟨hv_, hx_⟩ => ⟨hv_.trans (congrArg B hx159z), H.ext hx_⟩) ?_
 intro w160z H
 refine s_val (x_pand (b := e5 == 0) (r := s6) rfl (fun hb => gd_of (c := e5 == 0) (by first | exact hb | (rw [hb]; rfl) | simp_all) (B s6)) rfl) <| sA (B ((e5 == 0) && s6)) rfl <| s_nil ?_
 refine W.ret ?_
 have hr_ := M.e_pure hM
 exact ⟨_, resE_tmp rfl, ⟨((e5 == 0) && s6), hr_, rfl, (H.pick [] (by decide) rfl)⟩⟩

end Go.Proofs.Ytndobgodeicloaa
end
section
set_option maxRecDepth 100000
set_option maxHeartbeats 16000000
namespace Go.Proofs.Ytndobgodeicloaa
open Go Go.Nm
def m_nilometerkit_New (bytes : List UInt8) : M (Int × Int) :=
  M.pure (0, 0)
theorem nilometerkit_New_ok {R : List Chunk} {C_bytes : Cells} {v_bytes : Value} (bytes : List UInt8) (hC_bytes : Reads R C_bytes) (hs_bytes : Sl C_bytes v_bytes bytes) {r : (Int × Int)} (hM : (m_nilometerkit_New bytes).Ends r) (w : World) (H : St w w [] R) : Ret Try.prog 40 #[v_bytes] w fun v w' => ∃ (y0 : Int) (y1 : Int) (nb0 : Nat), (y0, y1) = r ∧ v = Pz nb0 ∧ St w w' [cBlk nb0 [v_bytes, I y0, I y1] 158] R := by
 refine ret_of_W Try.func40 rfl rfl rfl ?_
 refine sQ rfl <| sA (.pointer none) rfl <| s_nil <| sQ rfl <| sM v_bytes rfl <| s_val (x_bld (ps := [(0, v_bytes)]) (zs := [.slice none 0 0, I 0, I 0]) (L' := [v_bytes, I 0, I 0]) rfl Try.underlying158 Al158 rfl (Bd158 Try.underlying158) (.cons (cs := [v_bytes]) (Sl.cells hs_bytes) rfl rfl rfl rfl <| .nil)) ?_
 refine t_box (v := .agg #[v_bytes, I 0, I 0]) (cs := [v_bytes, I 0, I 0]) H rfl rfl ?_
 intro b_1 w1z H
 refine sA (Pz b_1) rfl <| s_nil ?_
 refine W.ret ?_
 have hr_ := M.e_pure hM
 exact ⟨_, resE_tmp rfl, ⟨0, 0, b_1, hr_, rfl, H⟩⟩

def m_nilometerkit_Stream_Next (s_bytes : List UInt8) (s_used : Int) (s_mix : Int) (n : Int) : M (Int × Int × Int) :=
  bif ((decide (n < 2)) || ((s_bytes.length : Int) == 0)) then (
  M.pure (0, s_used, s_mix))
  else (
  M.grd (decide ((0 : Int) ≤ s_used) && decide ((0 : Int) < (s_bytes.length : Int))) <|
  M.grd (decide ((0 : Int) ≤ (s_used % (s_bytes.length : Int))) && decide ((s_used % (s_bytes.length : Int)) < (s_bytes.length : Int))) <|
  M.grd (decide ((0 : Int) ≤ ((s_bytes.getD (Int.toNat (s_used % (s_bytes.length : Int))) 0).toNat : Int)) && decide (((s_bytes.getD (Int.toNat (s_used % (s_bytes.length : Int))) 0).toNat : Int) < (256 : Int))) <|
  bif decide ((s_bytes.length : Int) ≤ s_used) then (
  M.grd (decide ((-9223372036854775808 : Int) ≤ (11 * s_mix)) && decide ((11 * s_mix) ≤ (9223372036854775807 : Int))) <|
  M.grd (decide (0 ≤ s_used) && decide (s_used ≤ (9223372036854775807 : Int)) && decide ((0 : Int) < (s_bytes.length : Int))) <|
  M.grd (decide ((-9223372036854775808 : Int) ≤ ((11 * s_mix) + (s_used / (s_bytes.length : Int)))) && decide (((11 * s_mix) + (s_used / (s_bytes.length : Int))) ≤ (9223372036854775807 : Int))) <|
  M.grd (decide ((-9223372036854775808 : Int) ≤ (((s_bytes.getD (Int.toNat (s_used % (s_bytes.length : Int))) 0).toNat : Int) + ((11 * s_mix) + (s_used / (s_bytes.length : Int))))) && decide ((((s_bytes.getD (Int.toNat (s_used % (s_bytes.length : Int))) 0).toNat : Int) + ((11 * s_mix) + (s_used / (s_bytes.length : Int)))) ≤ (9223372036854775807 : Int))) <|
  M.grd (decide ((-9223372036854775808 : Int) ≤ (5 * s_mix)) && decide ((5 * s_mix) ≤ (9223372036854775807 : Int))) <|
  M.grd (decide ((-9223372036854775808 : Int) ≤ ((5 * s_mix) + (((s_bytes.getD (Int.toNat (s_used % (s_bytes.length : Int))) 0).toNat : Int) + ((11 * s_mix) + (s_used / (s_bytes.length : Int)))))) && decide (((5 * s_mix) + (((s_bytes.getD (Int.toNat (s_used % (s_bytes.length : Int))) 0).toNat : Int) + ((11 * s_mix) + (s_used / (s_bytes.length : Int))))) ≤ (9223372036854775807 : Int))) <|
  M.grd (decide ((-9223372036854775808 : Int) ≤ (((5 * s_mix) + (((s_bytes.getD (Int.toNat (s_used % (s_bytes.length : Int))) 0).toNat : Int) + ((11 * s_mix) + (s_used / (s_bytes.length : Int))))) + 1)) && decide ((((5 * s_mix) + (((s_bytes.getD (Int.toNat (s_used % (s_bytes.length : Int))) 0).toNat : Int) + ((11 * s_mix) + (s_used / (s_bytes.length : Int))))) + 1) ≤ (9223372036854775807 : Int))) <|
  M.grd (decide ((0 : Int) ≤ (((5 * s_mix) + (((s_bytes.getD (Int.toNat (s_used % (s_bytes.length : Int))) 0).toNat : Int) + ((11 * s_mix) + (s_used / (s_bytes.length : Int))))) + 1)) && decide ((0 : Int) < 251)) <|
  M.grd (decide ((-9223372036854775808 : Int) ≤ (s_used + 1)) && decide ((s_used + 1) ≤ (9223372036854775807 : Int))) <|
  bif decide (256 < n) then (
  M.grd (decide ((-9223372036854775808 : Int) ≤ (256 * (((s_bytes.getD (Int.toNat (s_used % (s_bytes.length : Int))) 0).toNat : Int) + ((11 * s_mix) + (s_used / (s_bytes.length : Int)))))) && decide ((256 * (((s_bytes.getD (Int.toNat (s_used % (s_bytes.length : Int))) 0).toNat : Int) + ((11 * s_mix) + (s_used / (s_bytes.length : Int))))) ≤ (9223372036854775807 : Int))) <|
  M.grd (decide ((-9223372036854775808 : Int) ≤ ((256 * (((s_bytes.getD (Int.toNat (s_used % (s_bytes.length : Int))) 0).toNat : Int) + ((11 * s_mix) + (s_used / (s_bytes.length : Int))))) + ((((5 * s_mix) + (((s_bytes.getD (Int.toNat (s_used % (s_bytes.length : Int))) 0).toNat : Int) + ((11 * s_mix) + (s_used / (s_bytes.length : Int))))) + 1) % 251))) && decide (((256 * (((s_bytes.getD (Int.toNat (s_used % (s_bytes.length : Int))) 0).toNat : Int) + ((11 * s_mix) + (s_used / (s_bytes.length : Int))))) + ((((5 * s_mix) + (((s_bytes.getD (Int.toNat (s_used % (s_bytes.length : Int))) 0).toNat : Int) + ((11 * s_mix) + (s_used / (s_bytes.length : Int))))) + 1) % 251)) ≤ (9223372036854775807 : Int))) <|
  M.grd (decide ((0 : Int) ≤ ((256 * (((s_bytes.getD (Int.toNat (s_used % (s_bytes.length : Int))) 0).toNat : Int) + ((11 * s_mix) + (s_used / (s_bytes.length : Int))))) + ((((5 * s_mix) + (((s_bytes.getD (Int.toNat (s_used % (s_bytes.length : Int))) 0).toNat : Int) + ((11 * s_mix) + (s_used / (s_bytes.length : Int))))) + 1) % 251))) && decide ((0 : Int) < n)) <|
  M.pure ((((256 * (((s_bytes.getD (Int.toNat (s_used % (s_bytes.length : Int))) 0).toNat : Int) + ((11 * s_mix) + (s_used / (s_bytes.length : Int))))) + ((((5 * s_mix) + (((s_bytes.getD (Int.toNat (s_used % (s_bytes.length : Int))) 0).toNat : Int) + ((11 * s_mix) + (s_used / (s_bytes.length : Int))))) + 1) % 251)) % n), (s_used + 1), ((((5 * s_mix) + (((s_bytes.getD (Int.toNat (s_used % (s_bytes.length : Int))) 0).toNat : Int) + ((11 * s_mix) + (s_used / (s_bytes.length : Int))))) + 1) % 251)))
  else (
  M.grd (decide ((0 : Int) ≤ (((s_bytes.getD (Int.toNat (s_used % (s_bytes.length : Int))) 0).toNat : Int) + ((11 * s_mix) + (s_used / (s_bytes.length : Int))))) && decide ((0 : Int) < n)) <|
  M.pure (((((s_bytes.getD (Int.toNat (s_used % (s_bytes.length : Int))) 0).toNat : Int) + ((11 * s_mix) + (s_used / (s_bytes.length : Int)))) % n), (s_used + 1), ((((5 * s_mix) + (((s_bytes.getD (Int.toNat (s_used % (s_bytes.length : Int))) 0).toNat : Int) + ((11 * s_mix) + (s_used / (s_bytes.length : Int))))) + 1) % 251))))
  else (
  M.grd (decide ((-9223372036854775808 : Int) ≤ (5 * s_mix)) && decide ((5 * s_mix) ≤ (9223372036854775807 : Int))) <|
  M.grd (decide ((-9223372036854775808 : Int) ≤ ((5 * s_mix) + ((s_bytes.getD (Int.toNat (s_used % (s_bytes.length : Int))) 0).toNat : Int))) && decide (((5 * s_mix) + ((s_bytes.getD (Int.toNat (s_used % (s_bytes.length : Int))) 0).toNat : Int)) ≤ (9223372036854775807 : Int))) <|
  M.grd (decide ((-9223372036854775808 : Int) ≤ (((5 * s_mix) + ((s_bytes.getD (Int.toNat (s_used % (s_bytes.length : Int))) 0).toNat : Int)) + 1)) && decide ((((5 * s_mix) + ((s_bytes.getD (Int.toNat (s_used % (s_bytes.length : Int))) 0).toNat : Int)) + 1) ≤ (9223372036854775807 : Int))) <|
  M.grd (decide ((0 : Int) ≤ (((5 * s_mix) + ((s_bytes.getD (Int.toNat (s_used % (s_bytes.length : Int))) 0).toNat : Int)) + 1)) && decide ((0 : Int) < 251)) <|
  M.grd (decide ((-9223372036854775808 : Int) ≤ (s_used + 1)) && decide ((s_used + 1) ≤ (9223372036854775807 : Int))) <|
  bif decide (256 < n) then (
  M.grd (decide ((-9223372036854775808 : Int) ≤ (256 * ((s_bytes.getD (Int.toNat (s_used % (s_bytes.length : Int))) 0).toNat : Int))) && decide ((256 * ((s_bytes.getD (Int.toNat (s_used % (s_bytes.length : Int))) 0).toNat : Int)) ≤ (9223372036854775807 : Int))) <|
  M.grd (decide ((-9223372036854775808 : Int) ≤ ((256 * ((s_bytes.getD (Int.toNat (s_used % (s_bytes.length : Int))) 0).toNat : Int)) + ((((5 * s_mix) + ((s_bytes.getD (Int.toNat (s_used % (s_bytes.length : Int))) 0).toNat : Int)) + 1) % 251))) && decide (((256 * ((s_bytes.getD (Int.toNat (s_used % (s_bytes.length : Int))) 0).toNat : Int)) + ((((5 * s_mix) + ((s_bytes.getD (Int.toNat (s_used % (s_bytes.length : Int))) 0).toNat : Int)) + 1) % 251)) ≤ (9223372036854775807 : Int))) <|
  M.grd (decide ((0 : Int) ≤ ((256 * ((s_bytes.getD (Int.toNat (s_used % (s_bytes.length : Int))) 0).toNat : Int)) + ((((5 * s_mix) + ((s_bytes.getD (Int.toNat (s_used % (s_bytes.length : Int))) 0).toNat : Int)) + 1) % 251))) && decide ((0 : Int) < n)) <|
  M.pure ((((256 * ((s_bytes.getD (Int.toNat (s_used % (s_bytes.length : Int))) 0).toNat : Int)) + ((((5 * s_mix) + ((s_bytes.getD (Int.toNat (s_used % (s_bytes.length : Int))) 0).toNat : Int)) + 1) % 251)) % n), (s_used + 1), ((((5 * s_mix) + ((s_bytes.getD (Int.toNat (s_used % (s_bytes.length : Int))) 0).toNat : Int)) + 1) % 251)))
  else (
  M.grd (decide ((0 : Int) ≤ ((s_bytes.getD (Int.toNat (s_used % (s_bytes.length : Int))) 0).toNat : Int)) && decide ((0 : Int) < n)) <|
  M.pure ((((s_bytes.getD (Int.toNat (s_used % (s_bytes.length : Int))) 0).toNat : Int) % n), (s_used + 1), ((((5 * s_mix) + ((s_bytes.getD (Int.toNat (s_used % (s_bytes.length : Int))) 0).toNat : Int)) + 1) % 251)))))
theorem nilometerkit_Stream_Next_ok {R : List Chunk} {b_s : Nat} {C_s_bytes : Cells} {v_s_bytes : Value} (s_bytes : List UInt8) (s_used : Int) (s_mix : Int) (n : Int) (hC_s_bytes : Reads R C_s_bytes) (hs_s_bytes : Sl C_s_bytes v_s_bytes s_bytes) {r : (Int × Int × Int)} (hM : (m_nilometerkit_Stream_Next s_bytes s_used s_mix n).Ends r) (w : World) (H : St w w [cBlk b_s [v_s_bytes, I s_used, I s_mix] 158] R) : Ret Try.prog 44 #[Pz b_s, I n] w fun v w' => ∃ (y0 : Int) (y1 : Int) (y2 : Int), (y0, y1, y2) = r ∧ v = I y0 ∧ St w w' [cBlk b_s [v_s_bytes, I y1, I y2] 158] R := by
 refine ret_of_W Try.func44 rfl rfl rfl ?_
 refine sQ rfl <| sA (I 0) rfl <| s_nil <| W.seq <| sQ rfl <| sM (I n) rfl <| sC n 2 (decide (n < 2)) rfl rfl rfl <| sM (B (decide (n < 2))) rfl <| g_val (!(decide (n < 2))) (gy_f rfl) (fun hg => x_mv (v := Pz b_s) rfl) <| g_val (!(decide (n < 2))) (gy_f rfl) (fun hg => x_nc (a := ⟨b_s, 0, none⟩) (gd_of (c := !(decide (n < 2))) hg (Pz b_s))) ?_
 refine g_val (!(decide (n < 2))) (gy_f rfl) (fun hg => x_fa (a := Pz b_s) (v := Pz b_s) (gd_of (c := !(decide (n < 2))) hg (Pz b_s)) (fa_blk (o := 0) Fd158_0 Sz62)) <| g_val (!(decide (n < 2))) (gy_f rfl) (fun hg => x_ld (p := Pz b_s) (v := v_s_bytes) (gd_of (c := !(decide (n < 2))) hg (Pz b_s)) (ldb_sc Sc62 (H.blk (k := 0) rfl) rfl)) <| g_val (!(decide (n < 2))) (gy_f rfl) (fun hg => x_lenS T62.und (gd_of (c := !(decide (n < 2))) hg (v_s_bytes)) hs_s_bytes) <| g_val (!(decide (n < 2))) (gy_f rfl) (fun hg => x_cmp (kd := .i64) (a := (s_bytes.length : Int)) (b := 0) (r := (s_bytes.length : Int) == 0) (gd_of (c := !(decide (n < 2))) hg (I (s_bytes.length : Int))) rfl rfl) <| s_val (x_por (b := decide (n < 2)) (r := (s_bytes.length : Int) == 0) rfl rfl (fun hb => gd_of (c := !(decide (n < 2))) (by first | exact hb | (rw [hb]; rfl) | simp_all) (B ((s_bytes.length : Int) == 0)))) <| s_nil ?_
 refine W.cond ((decide (n < 2)) || ((s_bytes.length : Int) == 0)) rfl (fun c2z => ?_) (fun c2z => ?_)
 ·replace hM := M.e_t hM c2z
  refine sQ rfl <| sA (I 0) rfl <| s_nil ?_
  refine W.ret ?_
  have hr_ := M.e_pure hM
  exact ⟨_, resE_tmp rfl, ⟨0, s_used, s_mix, hr_, rfl, H⟩⟩
 replace hM := M.e_f hM c2z
 refine W.skip <| W.seq ?_
 refine W.draw (fun W => St w W [cBlk b_s [v_s_bytes, I s_used, I s_mix] 158] R) [(0, true), (1, true), (2, true), (3, true), (4, true), (5, true), (6, true), (7, true), (8, true), (9, true), (10, true), (11, true), (12, true), (13, true), (14, true), (15, true), (16, true), (17, true)] mixed (by decide +kernel) rfl ?_
 intro w3z hx_
 replace H : St w w3z [cBlk b_s [v_s_bytes, I s_used, I s_mix] 158] R := H.ext hx_
 clear hx_
 refine ⟨(H.pick [0] (by decide) rfl), ?_⟩
 refine d_q rfl (fun w' H => x_mv (v := Pz b_s) rfl) ?_
 refine d_q rfl (fun w' H => x_nc (a := ⟨b_s, 0, none⟩) rfl) ?_
 refine d_q rfl (fun w' H => x_fa (a := Pz b_s) (v := Pz b_s) rfl (fa_blk (o := 0) Fd158_0 Sz62)) ?_
 refine d_q rfl (fun w' H => x_ld (p := Pz b_s) (v := v_s_bytes) rfl (ldb_sc Sc62 (H.blk (k := 0) rfl) rfl)) ?_
 refine d_q rfl (fun w' H => x_mv (v := Pz b_s) rfl) ?_
 refine d_q rfl (fun w' H => x_nc (a := ⟨b_s, 0, none⟩) rfl) ?_
 refine d_q rfl (fun w' H => x_fa (a := Pz b_s) (v := Oz b_s 1) rfl (fa_blk (o := 0) Fd158_1 Sz3)) ?_
 refine d_q rfl (fun w' H => x_ld (p := Oz b_s 1) (v := I s_used) rfl (ldb_sc Sc3 (H.blk (k := 0) rfl) rfl)) ?_
 refine d_q rfl (fun w' H => x_mv (v := Pz b_s) rfl) ?_
 refine d_q rfl (fun w' H => x_nc (a := ⟨b_s, 0, none⟩) rfl) ?_
 refine d_q rfl (fun w' H => x_fa (a := Pz b_s) (v := Pz b_s) rfl (fa_blk (o := 0) Fd158_0 Sz62)) ?_
 refine d_q rfl (fun w' H => x_ld (p := Pz b_s) (v := v_s_bytes) rfl (ldb_sc Sc62 (H.blk (k := 0) rfl) rfl)) ?_
 have hl4z := (hs_s_bytes).len_le
 refine d_q rfl (fun w' H => x_lenS T62.und rfl hs_s_bytes) ?_
 obtain ⟨sd5z, hM⟩ := M.e_gd hM
 refine d_q rfl (fun w' H => x_rem' (a := s_used) (b := (s_bytes.length : Int)) rfl rfl (by omega)) ?_
 obtain ⟨sd6z, hM⟩ := M.e_gd hM
 refine d_q rfl (fun w' H => x_ix (a := v_s_bytes) (b := I (s_used % (s_bytes.length : Int))) (v := vat v_s_bytes 1 (Int.toNat (s_used % (s_bytes.length : Int)))) rfl rfl (Sl.ix (α := UInt8) T62.und T62.size hs_s_bytes (by omega) (by omega))) ?_
 refine d_q rfl (fun w' H => x_ld (p := vat v_s_bytes 1 (Int.toNat (s_used % (s_bytes.length : Int)))) (v := .int .u8 (((s_bytes.getD (Int.toNat (s_used % (s_bytes.length : Int))) 0).toNat : Int))) rfl (ld_sc Sc5 (At.mono (UInt8_at hs_s_bytes (i := s_used % (s_bytes.length : Int)) (by omega) (by omega)) (hC_s_bytes.at H)))) ?_
 obtain ⟨sd7z, hM⟩ := M.e_gd hM
 refine d_q rfl (fun w' H => x_conv64 (kd := .u8) (a := ((s_bytes.getD (Int.toNat (s_used % (s_bytes.length : Int))) 0).toNat : Int)) Try.underlying5 Try.underlying3 rfl (by omega)) ?_
 refine d_q rfl (fun w' H => x_as (v := I ((s_bytes.getD (Int.toNat (s_used % (s_bytes.length : Int))) 0).toNat : Int)) rfl) ?_
 refine d_nil ?_
 refine W.seq <| W.seq ?_
 refine W.draw (fun W => St w W [cBlk b_s [v_s_bytes, I s_used, I s_mix] 158] R) [(0, true), (1, true), (2, true), (3, true), (4, true), (5, true), (6, true), (7, true), (8, true), (9, true)] mixed (by decide +kernel) rfl ?_
 intro w8z hx_
 replace H : St w w8z [cBlk b_s [v_s_bytes, I s_used, I s_mix] 158] R := H.ext hx_
 clear hx_
 refine ⟨(H.pick [0] (by decide) rfl), ?_⟩
 refine d_q rfl (fun w' H => x_mv (v := Pz b_s) rfl) ?_
 refine d_q rfl (fun w' H => x_nc (a := ⟨b_s, 0, none⟩) rfl) ?_
 refine d_q rfl (fun w' H => x_fa (a := Pz b_s) (v := Oz b_s 1) rfl (fa_blk (o := 0) Fd158_1 Sz3)) ?_
 refine d_q rfl (fun w' H => x_ld (p := Oz b_s 1) (v := I s_used) rfl (ldb_sc Sc3 (H.blk (k := 0) rfl) rfl)) ?_
 refine d_q rfl (fun w' H => x_mv (v := Pz b_s) rfl) ?_
 refine d_q rfl (fun w' H => x_nc (a := ⟨b_s, 0, none⟩) rfl) ?_
 refine d_q rfl (fun w' H => x_fa (a := Pz b_s) (v := Pz b_s) rfl (fa_blk (o := 0) Fd158_0 Sz62)) ?_
 refine d_q rfl (fun w' H => x_ld (p := Pz b_s) (v := v_s_bytes) rfl (ldb_sc Sc62 (H.blk (k := 0) rfl) rfl)) ?_
 have hl9z := (hs_s_bytes).len_le
 refine d_q rfl (fun w' H => x_lenS T62.und rfl hs_s_bytes) ?_
 refine d_q rfl (fun w' H => x_cmp (kd := .i64) (a := s_used) (b := (s_bytes.length : Int)) (r := decide ((s_bytes.length : Int) ≤ s_used)) rfl rfl rfl) ?_
 refine d_nil ?_
 refine W.cond (decide ((s_bytes.length : Int) ≤ s_used)) rfl (fun c10z => ?_) (fun c10z => ?_)
 ·replace hM := M.e_t hM c10z
  simp only [qz1, qz2, qz3, qz4, qz5, qz6, ne_eq, qz7] at c10z
  refine W.draw (fun W => St w W [cBlk b_s [v_s_bytes, I s_used, I s_mix] 158] R) [(0, true), (1, true), (2, true), (3, true), (4, true), (5, true), (6, true), (7, true), (8, true), (9, true), (10, true), (11, true), (12, true), (13, true), (14, true), (15, true), (16, true), (17, true), (18, true)] mixed (by decide +kernel) rfl ?_
  intro w11z hx_
  replace H : St w w11z [cBlk b_s [v_s_bytes, I s_used, I s_mix] 158] R := H.ext hx_
  clear hx_
  refine ⟨(H.pick [0] (by decide) rfl), ?_⟩
  refine d_q rfl (fun w' H => x_mv (v := I ((s_bytes.getD (Int.toNat (s_used % (s_bytes.length : Int))) 0).toNat : Int)) rfl) ?_
  refine d_q rfl (fun w' H => x_mv (v := Pz b_s) rfl) ?_
  refine d_q rfl (fun w' H => x_nc (a := ⟨b_s, 0, none⟩) rfl) ?_
  refine d_q rfl (fun w' H => x_fa (a := Pz b_s) (v := Oz b_s 2) rfl (fa_blk (o := 0) Fd158_2 Sz3)) ?_
  refine d_q rfl (fun w' H => x_ld (p := Oz b_s 2) (v := I s_mix) rfl (ldb_sc Sc3 (H.blk (k := 0) rfl) rfl)) ?_
  obtain ⟨sd12z, hM⟩ := M.e_gd hM
  refine d_q rfl (fun w' H => x_ari (a := 11) (b := s_mix) (r := 11 * s_mix) rfl rfl rfl (by omega)) ?_
  refine d_q rfl (fun w' H => x_mv (v := Pz b_s) rfl) ?_
  refine d_q rfl (fun w' H => x_nc (a := ⟨b_s, 0, none⟩) rfl) ?_
  refine d_q rfl (fun w' H => x_fa (a := Pz b_s) (v := Oz b_s 1) rfl (fa_blk (o := 0) Fd158_1 Sz3)) ?_
  refine d_q rfl (fun w' H => x_ld (p := Oz b_s 1) (v := I s_used) rfl (ldb_sc Sc3 (H.blk (k := 0) rfl) rfl)) ?_
  refine d_q rfl (fun w' H => x_mv (v := Pz b_s) rfl) ?_
  refine d_q rfl (fun w' H => x_nc (a := ⟨b_s, 0, none⟩) rfl) ?_
  refine d_q rfl (fun w' H => x_fa (a := Pz b_s) (v := Pz b_s) rfl (fa_blk (o := 0) Fd158_0 Sz62)) ?_
  refine d_q rfl (fun w' H => x_ld (p := Pz b_s) (v := v_s_bytes) rfl (ldb_sc Sc62 (H.blk (k := 0) rfl) rfl)) ?_
  have hl13z := (hs_s_bytes).len_le
  refine d_q rfl (fun w' H => x_lenS T62.und rfl hs_s_bytes) ?_
  obtain ⟨sd14z, hM⟩ := M.e_gd hM
  refine d_q rfl (fun w' H => x_quo (a := s_used) (b := (s_bytes.length : Int)) rfl rfl (by omega)) ?_
  obtain ⟨sd15z, hM⟩ := M.e_gd hM
  refine d_q rfl (fun w' H => x_ari (a := 11 * s_mix) (b := s_used / (s_bytes.length : Int)) (r := (11 * s_mix) + (s_used / (s_bytes.length : Int))) rfl rfl rfl (by omega)) ?_
  obtain ⟨sd16z, hM⟩ := M.e_gd hM
  refine d_q rfl (fun w' H => x_ari (a := ((s_bytes.getD (Int.toNat (s_used % (s_bytes.length : Int))) 0).toNat : Int)) (b := (11 * s_mix) + (s_used / (s_bytes.length : Int))) (r := ((s_bytes.getD (Int.toNat (s_used % (s_bytes.length : Int))) 0).toNat : Int) + ((11 * s_mix) + (s_used / (s_bytes.length : Int)))) rfl rfl rfl (by omega)) ?_
  refine d_q rfl (fun w' H => x_as (v := I (((s_bytes.getD (Int.toNat (s_used % (s_bytes.length : Int))) 0).toNat : Int) + ((11 * s_mix) + (s_used / (s_bytes.length : Int))))) rfl) ?_
  refine d_nil ?_
  refine sQ rfl <| sM (Pz b_s) rfl <| sM (Pz b_s) rfl <| s_val (x_nc (a := ⟨b_s, 0, none⟩) rfl) <| s_val (x_fa (a := Pz b_s) (v := Oz b_s 2) rfl (fa_blk (o := 0) Fd158_2 Sz3)) <| s_val (x_ld (p := Oz b_s 2) (v := I s_mix) rfl (ldb_sc Sc3 (H.blk (k := 0) rfl) rfl)) ?_
  obtain ⟨sd17z, hM⟩ := M.e_gd hM
  refine sR 5 s_mix (5 * s_mix) rfl rfl rfl (by omega) <| sM (I (((s_bytes.getD (Int.toNat (s_used % (s_bytes.length : Int))) 0).toNat : Int) + ((11 * s_mix) + (s_used / (s_bytes.length : Int))))) rfl ?_
  obtain ⟨sd18z, hM⟩ := M.e_gd hM
  refine sR (5 * s_mix) (((s_bytes.getD (Int.toNat (s_used % (s_bytes.length : Int))) 0).toNat : Int) + ((11 * s_mix) + (s_used / (s_bytes.length : Int)))) ((5 * s_mix) + (((s_bytes.getD (Int.toNat (s_used % (s_bytes.length : Int))) 0).toNat : Int) + ((11 * s_mix) + (s_used / (s_bytes.length : Int))))) rfl rfl rfl (by omega) ?_
  obtain ⟨sd19z, hM⟩ := M.e_gd hM
  refine sR ((5 * s_mix) + (((s_bytes.getD (Int.toNat (s_used % (s_bytes.length : Int))) 0).toNat : Int) + ((11 * s_mix) + (s_used / (s_bytes.length : Int))))) 1 (((5 * s_mix) + (((s_bytes.getD (Int.toNat (s_used % (s_bytes.length : Int))) 0).toNat : Int) + ((11 * s_mix) + (s_used / (s_bytes.length : Int))))) + 1) rfl rfl rfl (by omega) ?_
  obtain ⟨sd20z, hM⟩ := M.e_gd hM
  refine s_val (x_rem' (a := ((5 * s_mix) + (((s_bytes.getD (Int.toNat (s_used % (s_bytes.length : Int))) 0).toNat : Int) + ((11 * s_mix) + (s_used / (s_bytes.length : Int))))) + 1) (b := 251) rfl rfl (by omega)) <| s_val (x_nc (a := ⟨b_s, 0, none⟩) rfl) <| s_val (x_fa (a := Pz b_s) (v := Oz b_s 2) rfl (fa_blk (o := 0) Fd158_2 Sz3)) ?_
  refine t_st (k := 0) (b := b_s) (off := 2) (cs := [v_s_bytes, I s_used, I s_mix]) (vs := [I ((((5 * s_mix) + (((s_bytes.getD (Int.toNat (s_used % (s_bytes.length : Int))) 0).toNat : Int) + ((11 * s_mix) + (s_used / (s_bytes.length : Int))))) + 1) % 251)]) (cs' := [v_s_bytes, I s_used, I ((((5 * s_mix) + (((s_bytes.getD (Int.toNat (s_used % (s_bytes.length : Int))) 0).toNat : Int) + ((11 * s_mix) + (s_used / (s_bytes.length : Int))))) + 1) % 251)]) (v := I ((((5 * s_mix) + (((s_bytes.getD (Int.toNat (s_used % (s_bytes.length : Int))) 0).toNat : Int) + ((11 * s_mix) + (s_used / (s_bytes.length : Int))))) + 1) % 251)) (L' := [cBlk b_s [v_s_bytes, I s_used, I ((((5 * s_mix) + (((s_bytes.getD (Int.toNat (s_used % (s_bytes.length : Int))) 0).toNat : Int) + ((11 * s_mix) + (s_used / (s_bytes.length : Int))))) + 1) % 251)] 158]) H rfl rfl rfl Sz3 rfl rfl rfl rfl rfl rfl ?_
  intro w21z H
  refine s_nil <| sQ rfl <| sM (Pz b_s) rfl <| s_val (x_nc (a := ⟨b_s, 0, none⟩) rfl) <| s_val (x_fa (a := Pz b_s) (v := Oz b_s 1) rfl (fa_blk (o := 0) Fd158_1 Sz3)) <| s_val (x_ld (p := Oz b_s 1) (v := I s_used) rfl (ldb_sc Sc3 (H.blk (k := 0) rfl) rfl)) ?_
  obtain ⟨sd22z, hM⟩ := M.e_gd hM
  refine sR s_used 1 (s_used + 1) rfl rfl rfl (by omega) <| s_val (x_nc (a := ⟨b_s, 0, none⟩) rfl) <| s_val (x_fa (a := Pz b_s) (v := Oz b_s 1) rfl (fa_blk (o := 0) Fd158_1 Sz3)) ?_
  refine t_st (k := 0) (b := b_s) (off := 1) (cs := [v_s_bytes, I s_used, I ((((5 * s_mix) + (((s_bytes.getD (Int.toNat (s_used % (s_bytes.length : Int))) 0).toNat : Int) + ((11 * s_mix) + (s_used / (s_bytes.length : Int))))) + 1) % 251)]) (vs := [I (s_used + 1)]) (cs' := [v_s_bytes, I (s_used + 1), I ((((5 * s_mix) + (((s_bytes.getD (Int.toNat (s_used % (s_bytes.length : Int))) 0).toNat : Int) + ((11 * s_mix) + (s_used / (s_bytes.length : Int))))) + 1) % 251)]) (v := I (s_used + 1)) (L' := [cBlk b_s [v_s_bytes, I (s_used + 1), I ((((5 * s_mix) + (((s_bytes.getD (Int.toNat (s_used % (s_bytes.length : Int))) 0).toNat : Int) + ((11 * s_mix) + (s_used / (s_bytes.length : Int))))) + 1) % 251)] 158]) H rfl rfl rfl Sz3 rfl rfl rfl rfl rfl rfl ?_
  intro w23z H
  refine s_nil <| W.seq <| sQ rfl <| sM (I n) rfl <| sC n 256 (decide (256 < n)) rfl rfl rfl <| s_nil ?_
  refine W.cond (decide (256 < n)) rfl (fun c24z => ?_) (fun c24z => ?_)
  ·replace hM := M.e_t hM c24z
   simp only [qz1, qz2, qz3, qz4, qz5, qz6, ne_eq, qz7] at c24z
   refine W.region rfl <| sM (I (((s_bytes.getD (Int.toNat (s_used % (s_bytes.length : Int))) 0).toNat : Int) + ((11 * s_mix) + (s_used / (s_bytes.length : Int))))) rfl ?_
   obtain ⟨sd25z, hM⟩ := M.e_gd hM
   refine sR 256 (((s_bytes.getD (Int.toNat (s_used % (s_bytes.length : Int))) 0).toNat : Int) + ((11 * s_mix) + (s_used / (s_bytes.length : Int)))) (256 * (((s_bytes.getD (Int.toNat (s_used % (s_bytes.length : Int))) 0).toNat : Int) + ((11 * s_mix) + (s_used / (s_bytes.length : Int))))) rfl rfl rfl (by omega) <| sM (Pz b_s) rfl <| s_val (x_nc (a := ⟨b_s, 0, none⟩) rfl) <| s_val (x_fa (a := Pz b_s) (v := Oz b_s 2) rfl (fa_blk (o := 0) Fd158_2 Sz3)) <| s_val (x_ld (p := Oz b_s 2) (v := I ((((5 * s_mix) + (((s_bytes.getD (Int.toNat (s_used % (s_bytes.length : Int))) 0).toNat : Int) + ((11 * s_mix) + (s_used / (s_bytes.length : Int))))) + 1) % 251)) rfl (ldb_sc Sc3 (H.blk (k := 0) rfl) rfl)) ?_
   obtain ⟨sd26z, hM⟩ := M.e_gd hM
   refine sR (256 * (((s_bytes.getD (Int.toNat (s_used % (s_bytes.length : Int))) 0).toNat : Int) + ((11 * s_mix) + (s_used / (s_bytes.length : Int))))) ((((5 * s_mix) + (((s_bytes.getD (Int.toNat (s_used % (s_bytes.length : Int))) 0).toNat : Int) + ((11 * s_mix) + (s_used / (s_bytes.length : Int))))) + 1) % 251) ((256 * (((s_bytes.getD (Int.toNat (s_used % (s_bytes.length : Int))) 0).toNat : Int) + ((11 * s_mix) + (s_used / (s_bytes.length : Int))))) + ((((5 * s_mix) + (((s_bytes.getD (Int.toNat (s_used % (s_bytes.length : Int))) 0).toNat : Int) + ((11 * s_mix) + (s_used / (s_bytes.length : Int))))) + 1) % 251)) rfl rfl rfl (by omega) <| sA (I ((256 * (((s_bytes.getD (Int.toNat (s_used % (s_bytes.length : Int))) 0).toNat : Int) + ((11 * s_mix) + (s_used / (s_bytes.length : Int))))) + ((((5 * s_mix) + (((s_bytes.getD (Int.toNat (s_used % (s_bytes.length : Int))) 0).toNat : Int) + ((11 * s_mix) + (s_used / (s_bytes.length : Int))))) + 1) % 251))) rfl <| s_nil <| sQ rfl <| sM (I ((256 * (((s_bytes.getD (Int.toNat (s_used % (s_bytes.length : Int))) 0).toNat : Int) + ((11 * s_mix) + (s_used / (s_bytes.length : Int))))) + ((((5 * s_mix) + (((s_bytes.getD (Int.toNat (s_used % (s_bytes.length : Int))) 0).toNat : Int) + ((11 * s_mix) + (s_used / (s_bytes.length : Int))))) + 1) % 251))) rfl <| sM (I n) rfl ?_
   obtain ⟨sd27z, hM⟩ := M.e_gd hM
   refine s_val (x_rem' (a := (256 * (((s_bytes.getD (Int.toNat (s_used % (s_bytes.length : Int))) 0).toNat : Int) + ((11 * s_mix) + (s_used / (s_bytes.length : Int))))) + ((((5 * s_mix) + (((s_bytes.getD (Int.toNat (s_used % (s_bytes.length : Int))) 0).toNat : Int) + ((11 * s_mix) + (s_used / (s_bytes.length : Int))))) + 1) % 251)) (b := n) rfl rfl (by omega)) <| sA (I (((256 * (((s_bytes.getD (Int.toNat (s_used % (s_bytes.length : Int))) 0).toNat : Int) + ((11 * s_mix) + (s_used / (s_bytes.length : Int))))) + ((((5 * s_mix) + (((s_bytes.getD (Int.toNat (s_used % (s_bytes.length : Int))) 0).toNat : Int) + ((11 * s_mix) + (s_used / (s_bytes.length : Int))))) + 1) % 251)) % n)) rfl <| s_nil ?_
   refine W.ret ?_
   have hr_ := M.e_pure hM
   exact ⟨_, resE_tmp rfl, ⟨(((256 * (((s_bytes.getD (Int.toNat (s_used % (s_bytes.length : Int))) 0).toNat : Int) + ((11 * s_mix) + (s_used / (s_bytes.length : Int))))) + ((((5 * s_mix) + (((s_bytes.getD (Int.toNat (s_used % (s_bytes.length : Int))) 0).toNat : Int) + ((11 * s_mix) + (s_used / (s_bytes.length : Int))))) + 1) % 251)) % n), (s_used + 1), ((((5 * s_mix) + (((s_bytes.getD (Int.toNat (s_used % (s_bytes.length : Int))) 0).toNat : Int) + ((11 * s_mix) + (s_used / (s_bytes.length : Int))))) + 1) % 251), hr_, rfl, H⟩⟩
  replace hM := M.e_f hM c24z
  simp only [qz1, qz2, qz3, qz4, qz5, qz6, ne_eq, qz7] at c24z
  refine W.skip <| sQ rfl <| sM (I (((s_bytes.getD (Int.toNat (s_used % (s_bytes.length : Int))) 0).toNat : Int) + ((11 * s_mix) + (s_used / (s_bytes.length : Int))))) rfl <| sM (I n) rfl ?_
  obtain ⟨sd28z, hM⟩ := M.e_gd hM
  refine s_val (x_rem' (a := ((s_bytes.getD (Int.toNat (s_used % (s_bytes.length : Int))) 0).toNat : Int) + ((11 * s_mix) + (s_used / (s_bytes.length : Int)))) (b := n) rfl rfl (by omega)) <| sA (I ((((s_bytes.getD (Int.toNat (s_used % (s_bytes.length : Int))) 0).toNat : Int) + ((11 * s_mix) + (s_used / (s_bytes.length : Int)))) % n)) rfl <| s_nil ?_
  refine W.ret ?_
  have hr_ := M.e_pure hM
  exact ⟨_, resE_tmp rfl, ⟨((((s_bytes.getD (Int.toNat (s_used % (s_bytes.length : Int))) 0).toNat : Int) + ((11 * s_mix) + (s_used / (s_bytes.length : Int)))) % n), (s_used + 1), ((((5 * s_mix) + (((s_bytes.getD (Int.toNat (s_used % (s_bytes.length : Int))) 0).toNat : Int) + ((11 * s_mix) + (s_used / (s_bytes.length : Int))))) + 1) % 251), hr_, rfl, H⟩⟩
 replace hM := M.e_f hM c10z
 simp only [qz1, qz2, qz3, qz4, qz5, qz6, ne_eq, qz7] at c10z
 refine W.skip <| sQ rfl <| sM (Pz b_s) rfl <| sM (Pz b_s) rfl <| s_val (x_nc (a := ⟨b_s, 0, none⟩) rfl) <| s_val (x_fa (a := Pz b_s) (v := Oz b_s 2) rfl (fa_blk (o := 0) Fd158_2 Sz3)) <| s_val (x_ld (p := Oz b_s 2) (v := I s_mix) rfl (ldb_sc Sc3 (H.blk (k := 0) rfl) rfl)) ?_
 obtain ⟨sd29z, hM⟩ := M.e_gd hM
 refine sR 5 s_mix (5 * s_mix) rfl rfl rfl (by omega) <| sM (I ((s_bytes.getD (Int.toNat (s_used % (s_bytes.length : Int))) 0).toNat : Int)) rfl ?_
 obtain ⟨sd30z, hM⟩ := M.e_gd hM
 refine sR (5 * s_mix) ((s_bytes.getD (Int.toNat (s_used % (s_bytes.length : Int))) 0).toNat : Int) ((5 * s_mix) + ((s_bytes.getD (Int.toNat (s_used % (s_bytes.length : Int))) 0).toNat : Int)) rfl rfl rfl (by omega) ?_
 obtain ⟨sd31z, hM⟩ := M.e_gd hM
 refine sR ((5 * s_mix) + ((s_bytes.getD (Int.toNat (s_used % (s_bytes.length : Int))) 0).toNat : Int)) 1 (((5 * s_mix) + ((s_bytes.getD (Int.toNat (s_used % (s_bytes.length : Int))) 0).toNat : Int)) + 1) rfl rfl rfl (by omega) ?_
 obtain ⟨sd32z, hM⟩ := M.e_gd hM
 refine s_val (x_rem' (a := ((5 * s_mix) + ((s_bytes.getD (Int.toNat (s_used % (s_bytes.length : Int))) 0).toNat : Int)) + 1) (b := 251) rfl rfl (by omega)) <| s_val (x_nc (a := ⟨b_s, 0, none⟩) rfl) <| s_val (x_fa (a := Pz b_s) (v := Oz b_s 2) rfl (fa_blk (o := 0) Fd158_2 Sz3)) ?_
 refine t_st (k := 0) (b := b_s) (off := 2) (cs := [v_s_bytes, I s_used, I s_mix]) (vs := [I ((((5 * s_mix) + ((s_bytes.getD (Int.toNat (s_used % (s_bytes.length : Int))) 0).toNat : Int)) + 1) % 251)]) (cs' := [v_s_bytes, I s_used, I ((((5 * s_mix) + ((s_bytes.getD (Int.toNat (s_used % (s_bytes.length : Int))) 0).toNat : Int)) + 1) % 251)]) (v := I ((((5 * s_mix) + ((s_bytes.getD (Int.toNat (s_used % (s_bytes.length : Int))) 0).toNat : Int)) + 1) % 251)) (L' := [cBlk b_s [v_s_bytes, I s_used, I ((((5 * s_mix) + ((s_bytes.getD (Int.toNat (s_used % (s_bytes.length : Int))) 0).toNat : Int)) + 1) % 251)] 158]) H rfl rfl rfl Sz3 rfl rfl rfl rfl rfl rfl ?_
 intro w33z H
 refine s_nil <| sQ rfl <| sM (Pz b_s) rfl <| s_val (x_nc (a := ⟨b_s, 0, none⟩) rfl) <| s_val (x_fa (a := Pz b_s) (v := Oz b_s 1) rfl (fa_blk (o := 0) Fd158_1 Sz3)) <| s_val (x_ld (p := Oz b_s 1) (v := I s_used) rfl (ldb_sc Sc3 (H.blk (k := 0) rfl) rfl)) ?_
 obtain ⟨sd34z, hM⟩ := M.e_gd hM
 refine sR s_used 1 (s_used + 1) rfl rfl rfl (by omega) <| s_val (x_nc (a := ⟨b_s, 0, none⟩) rfl) <| s_val (x_fa (a := Pz b_s) (v := Oz b_s 1) rfl (fa_blk (o := 0) Fd158_1 Sz3)) ?_
 refine t_st (k := 0) (b := b_s) (off := 1) (cs := [v_s_bytes, I s_used, I ((((5 * s_mix) + ((s_bytes.getD (Int.toNat (s_used % (s_bytes.length : Int))) 0).toNat : Int)) + 1) % 251)]) (vs := [I (s_used + 1)]) (cs' := [v_s_bytes, I (s_used + 1), I ((((5 * s_mix) + ((s_bytes.getD (Int.toNat (s_used % (s_bytes.length : Int))) 0).toNat : Int)) + 1) % 251)]) (v := I (s_used + 1)) (L' := [cBlk b_s [v_s_bytes, I (s_used + 1), I ((((5 * s_mix) + ((s_bytes.getD (Int.toNat (s_used % (s_bytes.length : Int))) 0).toNat : Int)) + 1) % 251)] 158]) H rfl rfl rfl Sz3 rfl rfl rfl rfl rfl rfl ?_
 intro w35z H
 refine s_nil <| W.seq <| sQ rfl <| sM (I n) rfl <| sC n 256 (decide (256 < n)) rfl rfl rfl <| s_nil ?_
 refine W.cond (decide (256 < n)) rfl (fun c36z => ?_) (fun c36z => ?_)
 ·replace hM := M.e_t hM c36z
  simp only [qz1, qz2, qz3, qz4, qz5, qz6, ne_eq, qz7] at c36z
  refine W.region rfl <| sM (I ((s_bytes.getD (Int.toNat (s_used % (s_bytes.length : Int))) 0).toNat : Int)) rfl ?_
  obtain ⟨sd37z, hM⟩ := M.e_gd hM
  refine sR 256 ((s_bytes.getD (Int.toNat (s_used % (s_bytes.length : Int))) 0).toNat : Int) (256 * ((s_bytes.getD (Int.toNat (s_used % (s_bytes.length : Int))) 0).toNat : Int)) rfl rfl rfl (by omega) <| sM (Pz b_s) rfl <| s_val (x_nc (a := ⟨b_s, 0, none⟩) rfl) <| s_val (x_fa (a := Pz b_s) (v := Oz b_s 2) rfl (fa_blk (o := 0) Fd158_2 Sz3)) <| s_val (x_ld (p := Oz b_s 2) (v := I ((((5 * s_mix) + ((s_bytes.getD (Int.toNat (s_used % (s_bytes.length : Int))) 0).toNat : Int)) + 1) % 251)) rfl (ldb_sc Sc3 (H.blk (k := 0) rfl) rfl)) ?_
  obtain ⟨sd38z, hM⟩ := M.e_gd hM
  refine sR (256 * ((s_bytes.getD (Int.toNat (s_used % (s_bytes.length : Int))) 0).toNat : Int)) ((((5 * s_mix) + ((s_bytes.getD (Int.toNat (s_used % (s_bytes.length : Int))) 0).toNat : Int)) + 1) % 251) ((256 * ((s_bytes.getD (Int.toNat (s_used % (s_bytes.length : Int))) 0).toNat : Int)) + ((((5 * s_mix) + ((s_bytes.getD (Int.toNat (s_used % (s_bytes.length : Int))) 0).toNat : Int)) + 1) % 251)) rfl rfl rfl (by omega) <| sA (I ((256 * ((s_bytes.getD (Int.toNat (s_used % (s_bytes.length : Int))) 0).toNat : Int)) + ((((5 * s_mix) + ((s_bytes.getD (Int.toNat (s_used % (s_bytes.length : Int))) 0).toNat : Int)) + 1) % 251))) rfl <| s_nil <| sQ rfl <| sM (I ((256 * ((s_bytes.getD (Int.toNat (s_used % (s_bytes.length : Int))) 0).toNat : Int)) + ((((5 * s_mix) + ((s_bytes.getD (Int.toNat (s_used % (s_bytes.length : Int))) 0).toNat : Int)) + 1) % 251))) rfl <| sM (I n) rfl ?_
  obtain ⟨sd39z, hM⟩ := M.e_gd hM
  refine s_val (x_rem' (a := (256 * ((s_bytes.getD (Int.toNat (s_used % (s_bytes.length : Int))) 0).toNat : Int)) + ((((5 * s_mix) + ((s_bytes.getD (Int.toNat (s_used % (s_bytes.length : Int))) 0).toNat : Int)) + 1) % 251)) (b := n) rfl rfl (by omega)) <| sA (I (((256 * ((s_bytes.getD (Int.toNat (s_used % (s_bytes.length : Int))) 0).toNat : Int)) + ((((5 * s_mix) + ((s_bytes.getD (Int.toNat (s_used % (s_bytes.length : Int))) 0).toNat : Int)) + 1) % 251)) % n)) rfl <| s_nil ?_
  refine W.ret ?_
  have hr_ := M.e_pure hM
  exact ⟨_, resE_tmp rfl, ⟨(((256 * ((s_bytes.getD (Int.toNat (s_used % (s_bytes.length : Int))) 0).toNat : Int)) + ((((5 * s_mix) + ((s_bytes.getD (Int.toNat (s_used % (s_bytes.length : Int))) 0).toNat : Int)) + 1) % 251)) % n), (s_used + 1), ((((5 * s_mix) + ((s_bytes.getD (Int.toNat (s_used % (s_bytes.length : Int))) 0).toNat : Int)) + 1) % 251), hr_, rfl, H⟩⟩
 replace hM := M.e_f hM c36z
 simp only [qz1, qz2, qz3, qz4, qz5, qz6, ne_eq, qz7] at c36z
 refine W.skip <| sQ rfl <| sM (I ((s_bytes.getD (Int.toNat (s_used % (s_bytes.length : Int))) 0).toNat : Int)) rfl <| sM (I n) rfl ?_
 obtain ⟨sd40z, hM⟩ := M.e_gd hM
 refine s_val (x_rem' (a := ((s_bytes.getD (Int.toNat (s_used % (s_bytes.length : Int))) 0).toNat : Int)) (b := n) rfl rfl (by omega)) <| sA (I (((s_bytes.getD (Int.toNat (s_used % (s_bytes.length : Int))) 0).toNat : Int) % n)) rfl <| s_nil ?_
 refine W.ret ?_
 have hr_ := M.e_pure hM
 exact ⟨_, resE_tmp rfl, ⟨(((s_bytes.getD (Int.toNat (s_used % (s_bytes.length : Int))) 0).toNat : Int) % n), (s_used + 1), ((((5 * s_mix) + ((s_bytes.getD (Int.toNat (s_used % (s_bytes.length : Int))) 0).toNat : Int)) + 1) % 251), hr_, rfl, H⟩⟩

def m_nilometerkit_Mixed_b0 (s_bytes : List UInt8) (n : Int) : (Int × Int × Nat × (List Int)) → M ((Int × Int × Nat × (List Int)) ⊕ ((List Int) × (List Int) × Int × Int)) := fun (s2, s3, i, l) =>
  bif decide ((i : Int) < n) then (
  M.grd (decide ((-9223372036854775808 : Int) ≤ ((i : Int) + 1)) && decide (((i : Int) + 1) ≤ (9223372036854775807 : Int))) <|
  M.bind (m_nilometerkit_Stream_Next s_bytes s2 s3 ((i : Int) + 1)) fun (r2, q1, q2) =>
  M.grd (decide ((l.length + ([(i : Int)]).length) * 8 ≤ 140737488355328)) <|
  M.grd (decide ((0 : Int) ≤ r2) && decide (r2 < ((l ++ ([(i : Int)])).length : Int))) <|
  M.grd (decide ((i : Int) < ((l ++ ([(i : Int)])).length : Int))) <|
  M.grd (decide ((0 : Int) ≤ r2) && decide (r2 < (((l ++ ([(i : Int)])).set i ((l ++ ([(i : Int)])).getD (Int.toNat r2) 0 : Int)).length : Int))) <|
  M.pure (.inl (q1, q2, i + 1, ((l ++ ([(i : Int)])).set i ((l ++ ([(i : Int)])).getD (Int.toNat r2) 0 : Int)).set (Int.toNat r2) ((l ++ ([(i : Int)])).getD i 0 : Int))))
  else (
  M.pure (.inr (l, l, s2, s3)))
def m_nilometerkit_Mixed (s_bytes : List UInt8) (s_used : Int) (s_mix : Int) (n : Int) : M ((List Int) × Int × Int) :=
  M.bind (M.iter (m_nilometerkit_Mixed_b0 s_bytes n) (s_used, s_mix, 0, [])) fun (l2, l3, s4, s5) =>
  M.pure (l3, s4, s5)
def m_nilometerkit_Stream_Within (s_bytes : List UInt8) (s_used : Int) (s_mix : Int) (lo : Int) (hi : Int) : M (Int × Int × Int) :=
  M.grd (decide ((-9223372036854775808 : Int) ≤ (hi - lo)) && decide ((hi - lo) ≤ (9223372036854775807 : Int))) <|
  M.grd (decide ((-9223372036854775808 : Int) ≤ ((hi - lo) + 1)) && decide (((hi - lo) + 1) ≤ (9223372036854775807 : Int))) <|
  M.bind (m_nilometerkit_Stream_Next s_bytes s_used s_mix ((hi - lo) + 1)) fun (r2, q1, q2) =>
  M.grd (decide ((-9223372036854775808 : Int) ≤ (lo + r2)) && decide ((lo + r2) ≤ (9223372036854775807 : Int))) <|
  M.pure ((lo + r2), q1, q2)
theorem nilometerkit_Stream_Within_ok {R : List Chunk} {b_s : Nat} {C_s_bytes : Cells} {v_s_bytes : Value} (s_bytes : List UInt8) (s_used : Int) (s_mix : Int) (lo : Int) (hi : Int) (hC_s_bytes : Reads R C_s_bytes) (hs_s_bytes : Sl C_s_bytes v_s_bytes s_bytes) {r : (Int × Int × Int)} (hM : (m_nilometerkit_Stream_Within s_bytes s_used s_mix lo hi).Ends r) (w : World) (H : St w w [cBlk b_s [v_s_bytes, I s_used, I s_mix] 158] R) : Ret Try.prog 43 #[Pz b_s, I lo, I hi] w fun v w' => ∃ (y0 : Int) (y1 : Int) (y2 : Int), (y0, y1, y2) = r ∧ v = I y0 ∧ St w w' [cBlk b_s [v_s_bytes, I y1, I y2] 158] R := by
 refine ret_of_W Try.func43 rfl rfl rfl ?_
 refine sQ rfl <| sA (I 0) rfl <| s_nil <| sQ rfl <| sM (I lo) rfl <| sM (Pz b_s) rfl <| sM (I hi) rfl <| sM (I lo) rfl ?_
 obtain ⟨sd1z, hM⟩ := M.e_gd hM
 refine sR hi lo (hi - lo) rfl rfl rfl (by omega) ?_
 obtain ⟨sd2z, hM⟩ := M.e_gd hM
 refine sR (hi - lo) 1 ((hi - lo) + 1) rfl rfl rfl (by omega) ?_
 obtain ⟨r4z, hx3z, hM⟩ := M.e_bind hM
 refine s_call cf44 [Pz b_s, I ((hi - lo) + 1)] rfl (nilometerkit_Stream_Next_ok s_bytes s_used s_mix ((hi - lo) + 1) (hC_s_bytes.app _) hs_s_bytes hx3z _ (St.give (T := []) H rfl)) ?_
 rintro vq w5z ⟨r2, q1, q2, hr6z, hvq, H2_⟩
 subst hr6z
 subst vq
 try dsimp only at hM
 replace H : St w w5z [cBlk b_s [v_s_bytes, I q1, I q2] 158] R := H.back H2_ rfl
 clear H2_
 obtain ⟨sd7z, hM⟩ := M.e_gd hM
 refine sR lo r2 (lo + r2) rfl rfl rfl (by omega) <| sA (I (lo + r2)) rfl <| s_nil ?_
 refine W.ret ?_
 have hr_ := M.e_pure hM
 exact ⟨_, resE_tmp rfl, ⟨(lo + r2), q1, q2, hr_, rfl, H⟩⟩

def m_nilometerlaw13_Made_b2 (s_bytes : List UInt8) (s8 : Nat) : (Int × Int × Int × (List Int)) → M ((Int × Int × Int × (List Int)) ⊕ (Int × Int × (List Int) × (List Int))) := fun (s2, s3, k, l) =>
  bif (((decide (0 ≤ k)) && (decide ((l.length : Int) < 5))) && (decide (2 < (s8 : Int)))) then (
  M.bind (m_nilometerkit_Stream_Next s_bytes s2 s3 3) fun (r5, q14, q24) =>
  bif r5 == 0 then (
  M.grd (decide ((l.length + ([(k : Int)]).length) * 8 ≤ 140737488355328)) <|
  M.grd (decide ((-9223372036854775808 : Int) ≤ (k - 1)) && decide ((k - 1) ≤ (9223372036854775807 : Int))) <|
  M.pure (.inl (q14, q24, k - 1, l ++ ([(k : Int)]))))
  else (
  M.grd (decide ((-9223372036854775808 : Int) ≤ (k - 1)) && decide ((k - 1) ≤ (9223372036854775807 : Int))) <|
  M.pure (.inl (q14, q24, k - 1, l))))
  else (
  M.pure (.inr (s2, s3, l, l)))
def m_nilometerlaw13_Made_b3 (s_bytes : List UInt8) (r2 : Int) : (Int × Int × Nat × (List Work)) → M ((Int × Int × Nat × (List Work)) ⊕ ((List Work) × (List Work) × Int × Int)) := fun (s6, s7, s8, l4) =>
  bif decide ((s8 : Int) < r2) then (
  M.bind (m_nilometerkit_Stream_Next s_bytes s6 s7 2000) fun (r3, q12, q22) =>
  M.bind (m_nilometerkit_Stream_Next s_bytes q12 q22 60) fun (r4, q13, q23) =>
  M.grd (decide ((-9223372036854775808 : Int) ≤ ((s8 : Int) - 1)) && decide (((s8 : Int) - 1) ≤ (9223372036854775807 : Int))) <|
  M.bind (M.iter (m_nilometerlaw13_Made_b2 s_bytes s8) (q13, q23, (s8 : Int) - 1, [])) fun (s4, s5, l2, l3) =>
  M.grd (decide ((l4.length + ([(⟨l3, (r3 : Int), (r4 : Int)⟩ : Work)]).length) * 40 ≤ 140737488355328)) <|
  M.grd (decide ((-9223372036854775808 : Int) ≤ ((s8 : Int) + 1)) && decide (((s8 : Int) + 1) ≤ (9223372036854775807 : Int))) <|
  M.pure (.inl (s4, s5, s8 + 1, l4 ++ ([(⟨l3, (r3 : Int), (r4 : Int)⟩ : Work)]))))
  else (
  M.pure (.inr (l4, l4, s6, s7)))
def m_nilometerlaw13_Made (s_bytes : List UInt8) (s_used : Int) (s_mix : Int) (most : Int) : M ((List Work) × Int × Int) :=
  M.bind (m_nilometerkit_Stream_Within s_bytes s_used s_mix 2 most) fun (r2, q1, q2) =>
  M.bind (M.iter (m_nilometerlaw13_Made_b3 s_bytes r2) (q1, q2, 0, [])) fun (l5, l6, s9, s10) =>
  M.pure (l6, s9, s10)
theorem nilometerlaw13_Made_ok {R : List Chunk} {b_s : Nat} {C_s_bytes : Cells} {v_s_bytes : Value} (s_bytes : List UInt8) (s_used : Int) (s_mix : Int) (most : Int) (hC_s_bytes : Reads R C_s_bytes) (hs_s_bytes : Sl C_s_bytes v_s_bytes s_bytes) {r : ((List Work) × Int × Int)} (hM : (m_nilometerlaw13_Made s_bytes s_used s_mix most).Ends r) (w : World) (H : St w w [cBlk b_s [v_s_bytes, I s_used, I s_mix] 158] R) : Ret Try.prog 41 #[Pz b_s, I most] w fun v w' => ∃ (y0 : List Work) (y1 : Int) (y2 : Int) (u0 : Value) (rr1 : List (Raw 2)) (Bs2 : Base), (y0, y1, y2) = r ∧ v = u0 ∧ St w w' [cOwn (α := Raw 2) 60 u0 rr1, cRo Bs2, cBlk b_s [v_s_bytes, I y1, I y2] 158] R ∧ RepR (α := Work) Bs2.cells rr1 y0 := by
 refine ret_of_W Try.func41 rfl rfl rfl ?_
 refine sQ rfl <| sA (.slice none 0 0) rfl <| s_nil <| sQ rfl <| sA (.slice none 0 0) rfl <| s_nil <| W.seq <| sQ rfl <| sM (Pz b_s) rfl ?_
 refine sM (I most) rfl ?_
 obtain ⟨r2z, hx1z, hM⟩ := M.e_bind hM
 refine s_call cf43 [Pz b_s, I 2, I most] rfl (nilometerkit_Stream_Within_ok s_bytes s_used s_mix 2 most (hC_s_bytes.app _) hs_s_bytes hx1z _ (St.give (T := []) H rfl)) ?_
 rintro vq w3z ⟨r2, q1, q2, hr4z, hvq, H2_⟩
 subst hr4z
 subst vq
 try dsimp only at hM
 replace H : St w w3z [cBlk b_s [v_s_bytes, I q1, I q2] 158] R := H.back H2_ rfl
 clear H2_
 refine sM (I 0) rfl <| s_nil <| W.block ?_
 obtain ⟨Bs_12, H⟩ := H.emptyE
 replace H : St w w3z [cOwn (α := Raw 2) 60 (.slice none 0 0) ([]), cRo Bs_12, cBlk b_s [v_s_bytes, I q1, I q2] 158] R := H.nilOwn (α := Raw 2) 60
 have hr5z : RepR (α := Work) (n := 2) Bs_12.cells [] [] := .nil
 obtain ⟨ex6z, hi7z, hk8z⟩ := M.e_bind hM
 obtain ⟨m0_, hi7z⟩ := M.e_iter hi7z
 refine W.loop (fun m σ W => ∃ (s6 : Int) (s7 : Int) (s8 : Nat) (l4 : List Work) (v_l4 : Value) (rw_l4 : List (Raw 2)) (B_l4 : Base) (ρ : Env), σ = upds ρ [(0, Pz b_s), (5, v_l4), (11, I r2), (12, I (s8 : Int))] ∧ M.iterN (m_nilometerlaw13_Made_b3 s_bytes r2) m (s6, s7, s8, l4) = some ex6z ∧ St w W [cOwn (α := Raw 2) 60 v_l4 rw_l4, cRo B_l4, cBlk b_s [v_s_bytes, I s6, I s7] 158] R ∧ RepR (α := Work) B_l4.cells rw_l4 l4) ?_ ?_
 ·exact ⟨_, q1, q2, 0, [], (.slice none 0 0), [], Bs_12, _, upds_of _ _ ⟨rfl, rfl, rfl, rfl, trivial⟩, hi7z, H, hr5z⟩
 rintro m11z σ w9z ⟨s6, s7, s8, l4, v_l4, rw_l4, B_l4, ρ, rfl, hI10z, H, hr_l4⟩
 obtain ⟨m12z, lt13z, x14z, hM, hN15z⟩ := M.e_iterN hI10z
 simp only [m_nilometerlaw13_Made_b3] at hM
 clear hI10z
 refine sQ rfl <| sC (s8 : Int) r2 (decide ((s8 : Int) < r2)) rfl rfl rfl <| s_nil <| W.seq ?_
 refine W.cond (decide ((s8 : Int) < r2)) rfl (fun c16z => ?_) (fun c16z => ?_)
 ·replace hM := M.e_t hM c16z
  simp only [qz1, qz2, qz3, qz4, qz5, qz6, ne_eq, qz7] at c16z
  refine W.skip <| W.seq <| W.block <| sQ rfl <| sM (I (s8 : Int)) rfl <| sA (I (s8 : Int)) rfl <| s_nil <| sQ rfl <| sM (Pz b_s) rfl ?_
  obtain ⟨r18z, hx17z, hM⟩ := M.e_bind hM
  refine s_call cf44 [Pz b_s, I 2000] rfl (nilometerkit_Stream_Next_ok s_bytes s6 s7 2000 (hC_s_bytes.app _) hs_s_bytes hx17z _ (St.give (L := [cBlk b_s [v_s_bytes, I s6, I s7] 158, cOwn (α := Raw 2) 60 v_l4 rw_l4, cRo B_l4]) (A := [cBlk b_s [v_s_bytes, I s6, I s7] 158]) (T := [cOwn (α := Raw 2) 60 v_l4 rw_l4, cRo B_l4]) (H.pick [2, 0, 1] (by decide) rfl) rfl)) ?_
  rintro vq w19z ⟨r3, q12, q22, hr20z, hvq, H2_⟩
  subst hr20z
  subst vq
  try dsimp only at hM
  replace H : St w w19z [cBlk b_s [v_s_bytes, I q12, I q22] 158, cOwn (α := Raw 2) 60 v_l4 rw_l4, cRo B_l4] R := H.pick [2, 0, 1] (by decide) rfl |>.back H2_ rfl
  clear H2_
  refine sM (Pz b_s) rfl ?_
  obtain ⟨r22z, hx21z, hM⟩ := M.e_bind hM
  refine s_call cf44 [Pz b_s, I 60] rfl (nilometerkit_Stream_Next_ok s_bytes q12 q22 60 (hC_s_bytes.app _) hs_s_bytes hx21z _ (St.give (T := [cOwn (α := Raw 2) 60 v_l4 rw_l4, cRo B_l4]) H rfl)) ?_
  rintro vq w23z ⟨r4, q13, q23, hr24z, hvq, H2_⟩
  subst hr24z
  subst vq
  try dsimp only at hM
  replace H : St w w23z [cBlk b_s [v_s_bytes, I q13, I q23] 158, cOwn (α := Raw 2) 60 v_l4 rw_l4, cRo B_l4] R := H.back H2_ rfl
  clear H2_
  refine s_val (x_bld (ps := [(1, I r3), (2, I r4)]) (zs := [.slice none 0 0, I 0, I 0]) (L' := [.slice none 0 0, I r3, I r4]) rfl Try.underlying60 Al60 rfl (Bd60 Try.underlying60) (.cons (cs := [I r3]) rfl rfl rfl rfl rfl <| .cons (cs := [I r4]) rfl rfl rfl rfl rfl <| .nil)) ?_
  refine t_alloc (cs := [.slice none 0 0, I 0, I 0]) H Al60 rfl ?_
  intro b_1 w25z H
  refine t_st (k := 0) (b := b_1) (off := 0) (cs := [.slice none 0 0, I 0, I 0]) (vs := [.slice none 0 0, I r3, I r4]) (cs' := [.slice none 0 0, I r3, I r4]) (v := .agg #[.slice none 0 0, I r3, I r4]) (L' := [cBlk b_1 [.slice none 0 0, I r3, I r4] 60, cBlk b_s [v_s_bytes, I q13, I q23] 158, cOwn (α := Raw 2) 60 v_l4 rw_l4, cRo B_l4]) H rfl rfl rfl Sz60 rfl rfl rfl rfl rfl rfl ?_
  intro w26z H
  refine s_nil <| W.seq <| sQ rfl <| sM (I (s8 : Int)) rfl ?_
  obtain ⟨sd27z, hM⟩ := M.e_gd hM
  refine sR (s8 : Int) 1 ((s8 : Int) - 1) rfl rfl rfl (by omega) <| sA (I ((s8 : Int) - 1)) rfl <| s_nil <| W.block ?_
  replace H : St w w26z [cOwn (α := Int) 3 (.slice none 0 0) ([]), cBlk b_1 [.slice none 0 0, I r3, I r4] 60, cBlk b_s [v_s_bytes, I q13, I q23] 158, cOwn (α := Raw 2) 60 v_l4 rw_l4, cRo B_l4] R := H.nilOwn (α := Int) 3
  obtain ⟨ex28z, hi29z, hk30z⟩ := M.e_bind hM
  obtain ⟨m0_, hi29z⟩ := M.e_iter hi29z
  refine W.loop (fun m σ W => ∃ (s2 : Int) (s3 : Int) (k : Int) (l : List Int) (v_l : Value) (ρ : Env), σ = upds ρ [(0, Pz b_s), (5, v_l4), (6, I (s8 : Int)), (7, Pz b_1), (8, I k), (11, I r2), (12, I (s8 : Int))] ∧ M.iterN (m_nilometerlaw13_Made_b2 s_bytes s8) m (s2, s3, k, l) = some ex28z ∧ St w W [cOwn (α := Int) 3 v_l l, cBlk b_1 [v_l, I r3, I r4] 60, cBlk b_s [v_s_bytes, I s2, I s3] 158, cOwn (α := Raw 2) 60 v_l4 rw_l4, cRo B_l4] R) ?_ ?_
  ·exact ⟨_, q13, q23, (s8 : Int) - 1, [], (.slice none 0 0), _, upds_of _ _ ⟨rfl, rfl, rfl, rfl, rfl, rfl, rfl, trivial⟩, hi29z, H⟩
  rintro m33z σ w31z ⟨s2, s3, k, l, v_l, ρ, rfl, hI32z, H⟩
  obtain ⟨m34z, lt35z, x36z, hM, hN37z⟩ := M.e_iterN hI32z
  simp only [m_nilometerlaw13_Made_b2] at hM
  clear hI32z
  refine W.seq <| sQ rfl <| sM (I k) rfl <| sC k 0 (decide (0 ≤ k)) rfl rfl rfl <| sM (B (decide (0 ≤ k))) rfl <| g_val (decide (0 ≤ k)) (gy_t rfl) (fun hg => x_fa (a := Pz b_1) (v := Pz b_1) rfl (fa_blk (o := 0) Fd60_0 Sz34)) <| g_val (decide (0 ≤ k)) (gy_t rfl) (fun hg => x_ld (p := Pz b_1) (v := v_l) (gd_of (c := decide (0 ≤ k)) hg (Pz b_1)) (ldb_sc Sc34 (H.blk (k := 1) rfl) rfl)) <| g_val (decide (0 ≤ k)) (gy_t rfl) (fun hg => x_lenS T34.und (gd_of (c := decide (0 ≤ k)) hg (v_l)) (ownSl (H.get (k := 0) rfl))) <| g_val (decide (0 ≤ k)) (gy_t rfl) (fun hg => x_cmp (kd := .i64) (a := (l.length : Int)) (b := 5) (r := decide ((l.length : Int) < 5)) (gd_of (c := decide (0 ≤ k)) hg (I (l.length : Int))) rfl rfl) <| s_val (x_pand (b := decide (0 ≤ k)) (r := decide ((l.length : Int) < 5)) rfl (fun hb => gd_of (c := decide (0 ≤ k)) (by first | exact hb | (rw [hb]; rfl) | simp_all) (B (decide ((l.length : Int) < 5)))) rfl) <| sM (B ((decide (0 ≤ k)) && (decide ((l.length : Int) < 5)))) rfl ?_
  refine g_val ((decide (0 ≤ k)) && (decide ((l.length : Int) < 5))) (gy_t rfl) (fun hg => x_mv (v := I (s8 : Int)) rfl) <| g_val ((decide (0 ≤ k)) && (decide ((l.length : Int) < 5))) (gy_t rfl) (fun hg => x_cmp (kd := .i64) (a := (s8 : Int)) (b := 2) (r := decide (2 < (s8 : Int))) (gd_of (c := ((decide (0 ≤ k)) && (decide ((l.length : Int) < 5)))) hg (I (s8 : Int))) rfl rfl) <| s_val (x_pand (b := ((decide (0 ≤ k)) && (decide ((l.length : Int) < 5)))) (r := decide (2 < (s8 : Int))) rfl (fun hb => gd_of (c := ((decide (0 ≤ k)) && (decide ((l.length : Int) < 5)))) (by first | exact hb | (rw [hb]; rfl) | simp_all) (B (decide (2 < (s8 : Int))))) rfl) <| s_nil ?_
  refine W.cond (((decide (0 ≤ k)) && (decide ((l.length : Int) < 5))) && (decide (2 < (s8 : Int)))) rfl (fun c39z => ?_) (fun c39z => ?_)
  ·replace hM := M.e_t hM c39z
   refine W.skip <| W.seq <| W.block <| sQ rfl <| sM (Pz b_s) rfl ?_
   obtain ⟨r41z, hx40z, hM⟩ := M.e_bind hM
   refine s_call cf44 [Pz b_s, I 3] rfl (nilometerkit_Stream_Next_ok s_bytes s2 s3 3 (hC_s_bytes.app _) hs_s_bytes hx40z _ (St.give (L := [cBlk b_s [v_s_bytes, I s2, I s3] 158, cOwn (α := Int) 3 v_l l, cBlk b_1 [v_l, I r3, I r4] 60, cOwn (α := Raw 2) 60 v_l4 rw_l4, cRo B_l4]) (A := [cBlk b_s [v_s_bytes, I s2, I s3] 158]) (T := [cOwn (α := Int) 3 v_l l, cBlk b_1 [v_l, I r3, I r4] 60, cOwn (α := Raw 2) 60 v_l4 rw_l4, cRo B_l4]) (H.pick [2, 0, 1, 3, 4] (by decide) rfl) rfl)) ?_
   rintro vq w42z ⟨r5, q14, q24, hr43z, hvq, H2_⟩
   subst hr43z
   subst vq
   try dsimp only at hM
   replace H : St w w42z [cBlk b_s [v_s_bytes, I q14, I q24] 158, cOwn (α := Int) 3 v_l l, cBlk b_1 [v_l, I r3, I r4] 60, cOwn (α := Raw 2) 60 v_l4 rw_l4, cRo B_l4] R := H.pick [2, 0, 1, 3, 4] (by decide) rfl |>.back H2_ rfl
   clear H2_
   refine sC r5 0 (r5 == 0) rfl rfl rfl <| s_nil ?_
   refine W.cond (r5 == 0) rfl (fun c44z => ?_) (fun c44z => ?_)
   ·replace hM := M.e_t hM c44z
    simp only [qz1, qz2, qz3, qz4, qz5, qz6, ne_eq, qz7] at c44z
    refine W.region rfl <| s_val (x_fa (a := Pz b_1) (v := Pz b_1) rfl (fa_blk (o := 0) Fd60_0 Sz34)) <| s_val (x_ld (p := Pz b_1) (v := v_l) rfl (ldb_sc Sc34 (H.blk (k := 2) rfl) rfl)) <| sM (I k) rfl ?_
    refine t_bs (α := Int) T34 [I k] [(k : Int)] H rfl (.cons rfl (Flat.rep_enc _ (k : Int)) <| .nil) rfl rfl rfl ?_
    intro v45z w46z H
    obtain ⟨sd47z, hM⟩ := M.e_gd hM
    refine t_app (α := Int) (k := 2) (l := l) (l2 := [(k : Int)]) (l' := l ++ ([(k : Int)])) (vy := v45z) T34 rfl H rfl rfl rfl (ownSl (H.get (k := 0) rfl)) (ownLe _ (H.get (k := 0) rfl)) (rfl) (by first | omega | (simp only [List.length_nil] at *; omega)) ?_
    intro v48z w49z H
    replace H : St w w49z [cOwn (α := Int) 3 v45z ([(k : Int)]), cBlk b_s [v_s_bytes, I q14, I q24] 158, cOwn (α := Int) 3 v48z (l ++ ([(k : Int)])), cBlk b_1 [v_l, I r3, I r4] 60, cOwn (α := Raw 2) 60 v_l4 rw_l4, cRo B_l4] R := H
    refine s_val (x_fa (a := Pz b_1) (v := Pz b_1) rfl (fa_blk (o := 0) Fd60_0 Sz34)) ?_
    refine t_st (k := 3) (b := b_1) (off := 0) (cs := [v_l, I r3, I r4]) (vs := [v48z]) (cs' := [v48z, I r3, I r4]) (v := v48z) (L' := [cOwn (α := Int) 3 v45z ([(k : Int)]), cBlk b_s [v_s_bytes, I q14, I q24] 158, cOwn (α := Int) 3 v48z (l ++ ([(k : Int)])), cBlk b_1 [v48z, I r3, I r4] 60, cOwn (α := Raw 2) 60 v_l4 rw_l4, cRo B_l4]) H rfl rfl rfl Sz34 (Sl.cells (ownSl (H.get (k := 2) rfl))) rfl rfl (by simp only [List.all_cons, List.all_nil, Bool.true_and, Bool.and_true, Sl.oc (ownSl (H.get (k := 2) rfl))]; try rfl) rfl rfl ?_
    intro w50z H
    refine s_nil <| W.region rfl <| sM (I k) rfl ?_
    obtain ⟨sd51z, hM⟩ := M.e_gd hM
    refine sR k 1 (k - 1) rfl rfl rfl (by omega) <| sA (I (k - 1)) rfl <| s_nil ?_
    exact ⟨m34z, lt35z, q14, q24, k - 1, l ++ ([(k : Int)]), v48z, _, upds_of _ _ ⟨rfl, rfl, rfl, rfl, rfl, rfl, rfl, trivial⟩, M.e_inl hM hN37z, (H.pick [2, 3, 1, 4, 5] (by decide) rfl)⟩
   replace hM := M.e_f hM c44z
   simp only [qz1, qz2, qz3, qz4, qz5, qz6, ne_eq, qz7] at c44z
   refine W.skip <| W.region rfl <| sM (I k) rfl ?_
   obtain ⟨sd52z, hM⟩ := M.e_gd hM
   refine sR k 1 (k - 1) rfl rfl rfl (by omega) <| sA (I (k - 1)) rfl <| s_nil ?_
   exact ⟨m34z, lt35z, q14, q24, k - 1, l, v_l, _, upds_of _ _ ⟨rfl, rfl, rfl, rfl, rfl, rfl, rfl, trivial⟩, M.e_inl hM hN37z, (H.pick [1, 2, 0, 3, 4] (by decide) rfl)⟩
  replace hM := M.e_f hM c39z
  refine W.exit ?_
  have hX53z := M.e_inr hM hN37z
  subst hX53z
  replace hM := hk30z
  try dsimp only at hM
  refine W.region rfl <| sM v_l4 rfl <| s_val (x_ld (p := Pz b_1) (v := .agg #[v_l, I r3, I r4]) rfl (ldb_ag (ds := [v_l, I r3, I r4]) Ag60 Sz60 (H.blk (k := 1) rfl) rfl rfl)) ?_
  obtain ⟨Bs_5, H⟩ := H.emptyE
  obtain ⟨Bs_6, H, hs55z⟩ := H.freezeE (k := 1) rfl
  replace H : St w w31z [cRo Bs_5, cRo Bs_6, cBlk b_1 [v_l, I r3, I r4] 60, cBlk b_s [v_s_bytes, I s2, I s3] 158, cOwn (α := Raw 2) 60 v_l4 rw_l4, cRo B_l4] R := H
  have hq54z := hs55z
  obtain ⟨Bs_7, H, le56z, le57z⟩ := H.joinE (i := 0) (j := 1) rfl rfl
  replace hq54z := hq54z.mono le57z
  obtain ⟨rw58z, hrw_rw58z⟩ : ∃ r : Raw 2, r.cs = [v_l, I r3, I r4] := ⟨Raw.of [v_l, I r3, I r4] rfl (by simp only [List.all_cons, List.all_nil, Bool.true_and, Bool.and_true, Sl.oc hq54z]; try rfl), rfl⟩
  have hr59z : RepR (α := Work) Bs_7.cells [rw58z] [(⟨l, (r3 : Int), (r4 : Int)⟩ : Work)] := .cons (by rw [hrw_rw58z]; exact ⟨_, rfl, hq54z⟩) <| .nil
  refine t_bs (α := Raw 2) T22 [.agg #[v_l, I r3, I r4]] [rw58z] H rfl (.cons (by rw [show (Flat.enc rw58z : List Value) = rw58z.cs from rfl, hrw_rw58z]; rfl) (Flat.rep_enc _ _) <| .nil) rfl rfl rfl ?_
  intro v60z w61z H
  replace H : St w w61z [cOwn (α := Raw 2) 60 v60z ([rw58z]), cRo Bs_7, cRo Bs_5, cRo Bs_6, cBlk b_1 [v_l, I r3, I r4] 60, cBlk b_s [v_s_bytes, I s2, I s3] 158, cOwn (α := Raw 2) 60 v_l4 rw_l4, cRo B_l4] R := H
  obtain ⟨sd62z, hM⟩ := M.e_gd hM
  have hr63z := hr59z
  obtain ⟨Bs_11, H, le64z, le65z⟩ := H.joinE (i := 7) (j := 1) rfl rfl
  replace hr_l4 := hr_l4.mono le64z
  replace hr63z := hr63z.mono le65z
  have hr68z := hr_l4.app hr63z
  refine t_app (α := Raw 2) (k := 7) (l := rw_l4) (l2 := [rw58z]) (l' := rw_l4 ++ ([rw58z])) (vy := v60z) T22 rfl H rfl rfl rfl (ownSl (H.get (k := 1) rfl)) (ownLe _ (H.get (k := 1) rfl)) (rfl) (by have a_ := hr_l4.len; have b_ := hr63z.len; simp only [List.length_nil] at *; first | omega | (rw [a_, b_]; omega)) ?_
  intro v66z w67z H
  replace H : St w w67z [cRo Bs_11, cOwn (α := Raw 2) 60 v60z ([rw58z]), cRo Bs_7, cRo Bs_5, cRo Bs_6, cBlk b_1 [v_l, I r3, I r4] 60, cBlk b_s [v_s_bytes, I s2, I s3] 158, cOwn (α := Raw 2) 60 v66z (rw_l4 ++ ([rw58z])), cRo B_l4] R := H
  refine sA v66z rfl <| s_nil <| W.region rfl ?_
  obtain ⟨sd69z, hM⟩ := M.e_gd hM
  refine sR (s8 : Int) 1 ((s8 : Int) + 1) rfl rfl rfl (by omega) <| sM (I ((s8 : Int) + 1)) rfl <| s_nil ?_
  exact ⟨m12z, lt13z, s2, s3, s8 + 1, l4 ++ ([(⟨l, (r3 : Int), (r4 : Int)⟩ : Work)]), v66z, rw_l4 ++ ([rw58z]), Bs_11, _, upds_of _ _ ⟨rfl, rfl, rfl, rfl, trivial⟩, M.e_inl hM hN15z, (H.pick [7, 0, 6] (by decide) rfl), hr68z⟩
 replace hM := M.e_f hM c16z
 simp only [qz1, qz2, qz3, qz4, qz5, qz6, ne_eq, qz7] at c16z
 refine W.exit ?_
 have hX70z := M.e_inr hM hN15z
 subst hX70z
 replace hM := hk8z
 try dsimp only at hM
 refine sQ rfl <| sM v_l4 rfl <| sA v_l4 rfl <| s_nil ?_
 refine W.ret ?_
 have hr_ := M.e_pure hM
 exact ⟨_, resE_tmp rfl, ⟨l4, s6, s7, v_l4, rw_l4, B_l4, hr_, rfl, H, hr_l4⟩⟩

def m_nilometerlaw13_Noted_b2 (s_bytes : List UInt8) (s7 : Nat) (r2 : Int) : (Int × Int × Nat × (List Note)) → M ((Int × Int × Nat × (List Note)) ⊕ (Int × Int × (List Note) × (List Note))) := fun (s2, s3, s4, l4) =>
  bif decide ((s4 : Int) < r2) then (
  M.bind (m_nilometerkit_Stream_Next s_bytes s2 s3 3) fun (r4, q13, q23) =>
  bif r4 == 0 then (
  M.bind (m_nilometerkit_Stream_Next s_bytes q13 q23 2000) fun (r5, q14, q24) =>
  M.grd (decide ((l4.length + ([(⟨(s7 : Int), (s4 : Int), (r5 : Int)⟩ : Note)]).length) * 24 ≤ 140737488355328)) <|
  M.grd (decide ((-9223372036854775808 : Int) ≤ ((s4 : Int) + 1)) && decide (((s4 : Int) + 1) ≤ (9223372036854775807 : Int))) <|
  M.pure (.inl (q14, q24, s4 + 1, l4 ++ ([(⟨(s7 : Int), (s4 : Int), (r5 : Int)⟩ : Note)]))))
  else (
  M.grd (decide ((-9223372036854775808 : Int) ≤ ((s4 : Int) + 1)) && decide (((s4 : Int) + 1) ≤ (9223372036854775807 : Int))) <|
  M.pure (.inl (q13, q23, s4 + 1, l4))))
  else (
  M.pure (.inr (s2, s3, l4, l4)))
def m_nilometerlaw13_Noted_b3 (s_bytes : List UInt8) (w_ : List Work) : (Nat × Int × Int × (List Note) × (List Note)) → M ((Nat × Int × Int × (List Note) × (List Note)) ⊕ ((List Note) × (List Note) × (List Note) × (List Note) × Int × Int)) := fun (s7, s8, s9, l6, l7) =>
  bif decide ((s7 : Int) < (w_.length : Int)) then (
  M.grd (decide ((s7 : Int) < (w_.length : Int))) <|
  bif decide (0 < (((w_.getD s7 default).of).length : Int)) then (
  M.pure (.inl (s7 + 1, s8, s9, l6, l7)))
  else (
  M.bind (m_nilometerkit_Stream_Next s_bytes s8 s9 9) fun (r2, q1, q2) =>
  M.bind (m_nilometerkit_Stream_Next s_bytes q1 q2 2000) fun (r3, q12, q22) =>
  M.grd (decide ((l6.length + ([(⟨(s7 : Int), (r2 : Int), (r3 : Int)⟩ : Note)]).length) * 24 ≤ 140737488355328)) <|
  M.bind (M.iter (m_nilometerlaw13_Noted_b2 s_bytes s7 r2) (q12, q22, 0, l7)) fun (s5, s6, l2, l5) =>
  M.pure (.inl (s7 + 1, s5, s6, l6 ++ ([(⟨(s7 : Int), (r2 : Int), (r3 : Int)⟩ : Note)]), l5))))
  else (
  M.pure (.inr (l6, l7, l7, l6, s8, s9)))
def m_nilometerlaw13_Noted (s_bytes : List UInt8) (s_used : Int) (s_mix : Int) (w_ : List Work) : M ((List Note) × Int × Int) :=
  M.bind (M.iter (m_nilometerlaw13_Noted_b3 s_bytes w_) (0, s_used, s_mix, [], [])) fun (l8, l9, l10, l11, s10, s11) =>
  M.grd (decide ((l11.length + l10.length) * 24 ≤ 140737488355328)) <|
  M.pure ((l11 ++ l10), s10, s11)
end Go.Proofs.Ytndobgodeicloaa
end
namespace Go.Nm
structure SOk (c u x : Int) : Prop where
  u0 : 0 ≤ u
  u1 : u ≤ c
  x0 : 0 ≤ x
  x1 : x < 251
theorem SOk.mono {c d u x : Int} (h : SOk c u x) (hd : c ≤ d) : SOk d u x := ⟨h.u0, Int.le_trans h.u1 hd, h.x0, h.x1⟩
/-- What a stream gives: a number below n. -/
structure Nx (c n : Int) (y : Int × Int × Int) : Prop where
  ok : SOk c y.2.1 y.2.2
  lt : 1 ≤ n → 0 ≤ y.1 ∧ y.1 < n
  no : n < 1 → y.1 = 0
end Go.Nm
namespace Go.Proofs.Ytndobgodeicloaa
open Go Go.Nm
theorem next_out {b : List UInt8} {c u x n : Int} (h : SOk c u x) (hc : c ≤ 1000000000000) (hn : n ≤ 1000000) : (m_nilometerkit_Stream_Next b u x n).Out (Nx (c + 1) n) := by
  obtain ⟨u0, u1, x0, x1⟩ := h
  unfold m_nilometerkit_Stream_Next
  refine M.o_if (fun hb => ?_) (fun hb => ?_)
  · simp only [Bool.or_eq_true, decide_eq_true_eq, beq_iff_eq] at hb
    refine M.o_pure ⟨⟨u0, by dsimp only; omega, x0, x1⟩, fun h1 => ⟨Int.le_refl _, ?_⟩, fun _ => rfl⟩
    dsimp only
    omega
  · simp only [Bool.or_eq_false_iff, decide_eq_false_iff_not, beq_eq_false_iff_ne, ne_eq] at hb
    have hl : (0 : Int) < (b.length : Int) := by omega
    have m0 := Int.emod_nonneg u (show (b.length : Int) ≠ 0 by omega)
    have m1 := Int.emod_lt_of_pos u hl
    have d0 := Int.ediv_nonneg u0 (show (0 : Int) ≤ (b.length : Int) by omega)
    have d1 : u / (b.length : Int) ≤ u := Int.ediv_le_self _ u0
    have y1 : ((b.getD (Int.toNat (u % (b.length : Int))) 0).toNat : Int) < 256 := by
      have := UInt8.toNat_lt (b.getD (Int.toNat (u % (b.length : Int))) 0)
      omega
    have y0 : (0 : Int) ≤ ((b.getD (Int.toNat (u % (b.length : Int))) 0).toNat : Int) := Int.natCast_nonneg _
    generalize ((b.getD (Int.toNat (u % (b.length : Int))) 0).toNat : Int) = y at *
    generalize u % (b.length : Int) = m at *
    generalize u / (b.length : Int) = d at *
    have hn0 : 0 < n := by omega
    have fin : ∀ z : Int, 0 ≤ z → 0 ≤ z % n ∧ z % n < n := fun z hz => ⟨Int.emod_nonneg _ (by omega), Int.emod_lt_of_pos _ hn0⟩
    have pr : ∀ z w : Int, 0 ≤ z → Nx (c + 1) n (z % n, u + 1, w % 251) := fun z w hz => ⟨⟨by dsimp only; omega, by dsimp only; omega, by dsimp only; omega, by dsimp only; omega⟩, fun _ => fin z hz, fun h => by omega⟩
    refine M.o_grd (by simp only [Bool.and_eq_true, decide_eq_true_eq]; omega) (M.o_grd (by simp only [Bool.and_eq_true, decide_eq_true_eq]; omega) (M.o_grd (by simp only [Bool.and_eq_true, decide_eq_true_eq]; omega) ?_))
    refine M.o_if (fun h1 => ?_) (fun h1 => ?_)
    · refine M.o_grd (by simp only [Bool.and_eq_true, decide_eq_true_eq]; omega) (M.o_grd (by simp only [Bool.and_eq_true, decide_eq_true_eq]; omega) (M.o_grd (by simp only [Bool.and_eq_true, decide_eq_true_eq]; omega) (M.o_grd (by simp only [Bool.and_eq_true, decide_eq_true_eq]; omega) (M.o_grd (by simp only [Bool.and_eq_true, decide_eq_true_eq]; omega) ?_))))
      refine M.o_grd (by simp only [Bool.and_eq_true, decide_eq_true_eq]; omega) (M.o_grd (by simp only [Bool.and_eq_true, decide_eq_true_eq]; omega) (M.o_grd (by simp only [Bool.and_eq_true, decide_eq_true_eq]; omega) (M.o_grd (by simp only [Bool.and_eq_true, decide_eq_true_eq]; omega) ?_)))
      refine M.o_if (fun h2 => ?_) (fun h2 => ?_)
      · refine M.o_grd (by simp only [Bool.and_eq_true, decide_eq_true_eq]; omega) (M.o_grd (by simp only [Bool.and_eq_true, decide_eq_true_eq]; omega) (M.o_grd (by simp only [Bool.and_eq_true, decide_eq_true_eq]; omega) (M.o_pure (pr _ _ (by omega)))))
      · refine M.o_grd (by simp only [Bool.and_eq_true, decide_eq_true_eq]; omega) (M.o_pure (pr _ _ (by omega)))
    · refine M.o_grd (by simp only [Bool.and_eq_true, decide_eq_true_eq]; omega) (M.o_grd (by simp only [Bool.and_eq_true, decide_eq_true_eq]; omega) (M.o_grd (by simp only [Bool.and_eq_true, decide_eq_true_eq]; omega) (M.o_grd (by simp only [Bool.and_eq_true, decide_eq_true_eq]; omega) (M.o_grd (by simp only [Bool.and_eq_true, decide_eq_true_eq]; omega) ?_))))
      refine M.o_if (fun h2 => ?_) (fun h2 => ?_)
      · refine M.o_grd (by simp only [Bool.and_eq_true, decide_eq_true_eq]; omega) (M.o_grd (by simp only [Bool.and_eq_true, decide_eq_true_eq]; omega) (M.o_grd (by simp only [Bool.and_eq_true, decide_eq_true_eq]; omega) (M.o_pure (pr _ _ (by omega)))))
      · refine M.o_grd (by simp only [Bool.and_eq_true, decide_eq_true_eq]; omega) (M.o_pure (pr _ _ (by omega)))
theorem within_out {b : List UInt8} {c u x lo hi : Int} (h : SOk c u x) (hc : c ≤ 1000000000000) (h0 : -1000 ≤ lo) (h1 : lo ≤ hi) (h2 : hi ≤ 10000) : (m_nilometerkit_Stream_Within b u x lo hi).Out (fun y => SOk (c + 1) y.2.1 y.2.2 ∧ lo ≤ y.1 ∧ y.1 ≤ hi) := by
  unfold m_nilometerkit_Stream_Within
  refine M.o_grd (gA2 (by omega) (by omega)) (M.o_grd (gA2 (by omega) (by omega)) (M.o_bind (next_out h hc (by omega)) ?_))
  rintro ⟨r, u', x'⟩ ⟨k, hl, _⟩
  have := hl (by omega)
  dsimp only at this k ⊢
  exact M.o_grd (gA2 (by omega) (by omega)) (M.o_pure ⟨k, by dsimp only; omega, by dsimp only; omega⟩)
/-! ### Works -/
structure OfOk (i : Nat) (l : List Int) : Prop where
  few : l.length ≤ 5
  ahead : ∀ k ∈ l, 0 ≤ k ∧ k < (i : Int)
  once : l.Nodup
  early : i ≤ 2 → l = []
theorem made_of {b : List UInt8} {c u x : Int} (h : SOk c u x) (hc : c ≤ 1000000000) {i : Nat} (hi : i ≤ 1000) :
    (M.iter (m_nilometerlaw13_Made_b2 b i) (u, x, (i : Int) - 1, [])).Out (fun y => SOk (c + i) y.1 y.2.1 ∧ OfOk i y.2.2.2) := by
  refine M.o_iter (fun (m : Nat) (s : Int × Int × Int × List Int) => m = (s.2.2.1 + 1).toNat ∧ -1 ≤ s.2.2.1 ∧ s.2.2.1 < i ∧ SOk (c + (i : Int) - (s.2.2.1 + 1)) s.1 s.2.1 ∧ s.2.2.2.length ≤ 5 ∧ (∀ k ∈ s.2.2.2, s.2.2.1 < k ∧ k < (i : Int)) ∧ s.2.2.2.Nodup ∧ (i ≤ 2 → s.2.2.2 = [])) ?_ _ (u, x, (i : Int) - 1, []) ⟨rfl, by dsimp only; omega, by dsimp only; omega, h.mono (by dsimp only; omega), by simp, by simp, by simp, fun _ => rfl⟩
  rintro m ⟨u, x, k, l⟩ ⟨rfl, k0, k1, hs, h5, hk, hn, he⟩
  dsimp only at k0 k1 hs h5 hk hn he ⊢
  simp only [m_nilometerlaw13_Made_b2]
  refine M.o_if (fun hb => ?_) (fun hb => ?_)
  · simp only [Bool.and_eq_true, decide_eq_true_eq] at hb
    refine M.o_bind (next_out hs (by omega) (by omega)) ?_
    rintro ⟨r, u', x'⟩ ⟨ok, _, _⟩
    dsimp only at ok ⊢
    refine M.o_if (fun hr => ?_) (fun hr => ?_)
    · refine M.o_grdD (by simp only [List.length_cons, List.length_nil]; omega) (M.o_grd (gA2 (by omega) (by omega)) (M.o_pure ⟨k.toNat, by omega, ?_⟩))
      refine ⟨by dsimp only; omega, by dsimp only; omega, by dsimp only; omega, ok.mono (by dsimp only; omega), ?_, ?_, ?_, ?_⟩
      · simp only [List.length_append, List.length_cons, List.length_nil]; omega
      · intro y hy
        simp only [List.mem_append, List.mem_cons, List.not_mem_nil, or_false] at hy
        rcases hy with hy | hy
        · have := hk y hy; dsimp only; omega
        · subst hy; dsimp only; omega
      · dsimp only
        rw [List.nodup_append]
        refine ⟨hn, by simp, fun a ha b hb e => ?_⟩
        simp only [List.mem_cons, List.not_mem_nil, or_false] at hb
        have := hk a ha
        omega
      · intro h2; omega
    · refine M.o_grd (gA2 (by omega) (by omega)) (M.o_pure ⟨k.toNat, by omega, ?_⟩)
      exact ⟨by dsimp only; omega, by dsimp only; omega, by dsimp only; omega, ok.mono (by dsimp only; omega), h5, fun y hy => by have := hk y hy; dsimp only; omega, hn, he⟩
  · refine M.o_pure ⟨hs.mono (by omega), h5, fun y hy => ?_, hn, he⟩
    have := hk y hy
    omega
/-- What works of numbers are like. -/
structure MadeW (most : Int) (ws : List Work) : Prop where
  built : Built ws
  two : 2 ≤ ws.length
  most : (ws.length : Int) ≤ most
  small : ∀ i, i < ws.length → (ws.getD i default).base < 2000 ∧ (ws.getD i default).minutes < 60
  src : ∀ i, i < ws.length → i ≤ 2 → (ws.getD i default).of = []
theorem made_out {b : List UInt8} {c u x most : Int} (h : SOk c u x) (hc : c ≤ 100000000) (h2 : 2 ≤ most) (h30 : most ≤ 30) : (m_nilometerlaw13_Made b u x most).Out (fun y => MadeW most y.1 ∧ SOk (c + 2000) y.2.1 y.2.2) := by
  unfold m_nilometerlaw13_Made
  refine M.o_bind (within_out h (by omega) (by omega) h2 (by omega)) ?_
  rintro ⟨r, u1, x1⟩ ⟨hs, r0, r1⟩
  dsimp only at hs r0 r1 ⊢
  refine M.o_bind (P := fun y => MadeW most y.2.1 ∧ SOk (c + 2000) y.2.2.1 y.2.2.2) ?_ (fun y hy => M.o_pure hy)
  refine M.o_for r.toNat (fun i s => s.2.2.1 = i ∧ SOk (c + 1 + 40 * i) s.1 s.2.1 ∧ s.2.2.2.length = i ∧ (∀ j, j < i → BuiltAt j (s.2.2.2.getD j default) ∧ (s.2.2.2.getD j default).base < 2000 ∧ (s.2.2.2.getD j default).minutes < 60 ∧ (j ≤ 2 → (s.2.2.2.getD j default).of = []))) ?_ ?_ (s := (u1, x1, 0, [])) ⟨rfl, hs.mono (by omega), rfl, fun j hj => by omega⟩
  · rintro i ⟨u, x, j, l⟩ hi ⟨rfl, ok, hl, hj⟩
    dsimp only at hi ok hl hj ⊢
    simp only [m_nilometerlaw13_Made_b3]
    refine M.o_t (by simp; omega) (M.o_bind (next_out ok (by omega) (by omega)) ?_)
    rintro ⟨r3, u3, x3⟩ ⟨ok3, l3, _⟩
    dsimp only at ok3 l3 ⊢
    have l3 := l3 (by omega)
    refine M.o_bind (next_out ok3 (by omega) (by omega)) ?_
    rintro ⟨r4, u4, x4⟩ ⟨ok4, l4, _⟩
    dsimp only at ok4 l4 ⊢
    have l4 := l4 (by omega)
    refine M.o_grd (gA2 (by omega) (by omega)) (M.o_bind (made_of ok4 (by omega) (i := j) (by omega)) ?_)
    rintro ⟨u5, x5, la, lo⟩ ⟨ok5, hof⟩
    dsimp only at ok5 hof ⊢
    refine M.o_grdD (by simp only [List.length_cons, List.length_nil]; omega) (M.o_grd (gA2 (by omega) (by omega)) (M.o_pure ?_))
    refine ⟨rfl, ok5.mono (by omega), by simp [hl], fun k hk => ?_⟩
    dsimp only
    by_cases e : k < l.length
    · rw [getD_app_left _ _ e]
      exact hj k (by omega)
    · obtain rfl : k = l.length := by omega
      rw [getD_app_mid]
      refine ⟨⟨hof.few, ⟨l3.1, by dsimp only; omega⟩, ⟨l4.1, by dsimp only; omega⟩, ?_, hof.once⟩, l3.2, l4.2, ?_⟩
      · rw [hl]; exact hof.ahead
      · rw [hl]; exact hof.early
  · rintro ⟨u, x, j, l⟩ ⟨rfl, ok, hl, hj⟩
    dsimp only at ok hl hj ⊢
    simp only [m_nilometerlaw13_Made_b3]
    refine M.o_f (by simp; omega) (M.o_pure ⟨⟨⟨by dsimp only; omega, fun i hi => (hj i (Nat.lt_of_lt_of_eq hi hl)).1⟩, by dsimp only; omega, by dsimp only; omega, fun i hi => ⟨(hj i (Nat.lt_of_lt_of_eq hi hl)).2.1, (hj i (Nat.lt_of_lt_of_eq hi hl)).2.2.1⟩, fun i hi => (hj i (Nat.lt_of_lt_of_eq hi hl)).2.2.2⟩, ok.mono (by omega)⟩)
end Go.Proofs.Ytndobgodeicloaa
namespace Go.Nm
/-- What a note says, or none. -/
def nv (o : Option Note) : Int := match o with | some n => n.value | none => -1
def nq (o : Option Note) : Int := match o with | some n => n.version | none => -1
end Go.Nm
namespace Go.Nm
end Go.Nm
namespace Go.Nm
variable {ws : List Work} {l e : List Note}
/-! ### Notes -/
def Uniq (l : List Note) : Prop := ∀ a ∈ l, ∀ b ∈ l, a.work = b.work → a.version = b.version → a = b
theorem Uniq.add {l l' : List Note} {n : Note} (h : Uniq l) (hm : ∀ a ∈ l', a ∈ l ∨ a = n) (hn : ∀ a ∈ l, ¬ (a.work = n.work ∧ a.version = n.version)) : Uniq l' := by
  intro a ha b hb h1 h2
  rcases hm a ha with ha | rfl <;> rcases hm b hb with hb | rfl
  · exact h a ha b hb h1 h2
  · exact absurd ⟨h1, h2⟩ (hn a ha)
  · exact absurd ⟨h1.symm, h2.symm⟩ (hn b hb)
  · rfl
structure NG (ws : List Work) (l : List Note) : Prop where
  few : l.length ≤ 200
  src : ∀ n ∈ l, 0 ≤ n.work ∧ n.work < (ws.length : Int) ∧ (ws.getD n.work.toNat default).of = []
  rng : ∀ n ∈ l, 0 ≤ n.version ∧ n.version ≤ 1000000 ∧ 0 ≤ n.value ∧ n.value ≤ 1000002
  uniq : Uniq l
/-! ### Values -/
/-- Each source has a note. -/
def Full (ws : List Work) (l : List Note) : Prop := ∀ i, i < ws.length → (ws.getD i default).of = [] → ∃ n ∈ l, n.work = (i : Int)
/-! ### Lists in order -/
theorem asc_of {l : List Int} (h : l.Pairwise (· < ·)) : AscTo l l.length := by
  intro j h1 h2
  rw [getD_el l (by omega) 0, getD_el l h2 0]
  exact List.pairwise_iff_getElem.1 h (j - 1) j (by omega) h2 (by omega)
theorem listed_of {n : Nat} {l : List Int} (h : ∀ x ∈ l, 0 ≤ x ∧ x < (n : Int)) (ha : l.Pairwise (· < ·)) : listedE n l = 0 := by
  unfold listedE
  rw [if_neg, if_pos (asc_of ha)]
  rw [Bool.not_eq_true, Bool.not_eq_false', List.all_eq_true]
  intro x hx
  have := h x hx
  unfold inB
  simp only [Bool.and_eq_true, decide_eq_true_eq]
  omega
theorem pair_snoc {l : List Int} {x : Int} (h : l.Pairwise (· < ·)) (hx : ∀ y ∈ l, y < x) : (l ++ [x]).Pairwise (· < ·) := by
  rw [List.pairwise_append]
  exact ⟨h, by simp, fun a ha b hb => by rw [List.mem_singleton.1 hb]; exact hx a ha⟩
/-! ### Publications -/
end Go.Nm
namespace Go.Nm
structure NtOk (ws : List Work) (s : Nat) (l6 l7 : List Note) : Prop where
  src : ∀ n ∈ l6 ++ l7, 0 ≤ n.work ∧ n.work < (s : Int) ∧ (ws.getD n.work.toNat default).of = []
  rng : ∀ n ∈ l6 ++ l7, 0 ≤ n.version ∧ n.version ≤ 8 ∧ 0 ≤ n.value ∧ n.value < 2000
  uniq : Uniq (l6 ++ l7)
  all : ∀ i, i < s → (ws.getD i default).of = [] → ∃ n ∈ l6, n.work = (i : Int)
  len6 : l6.length ≤ s
  len7 : l7.length ≤ 8 * s
theorem NtOk.next {ws : List Work} {s : Nat} {l6 l7 : List Note} (h : NtOk ws s l6 l7) (hs : (ws.getD s default).of ≠ []) : NtOk ws (s + 1) l6 l7 :=
  ⟨fun n hn => by have := h.src n hn; exact ⟨this.1, by omega, this.2.2⟩, h.rng, h.uniq, fun i hi he => by
    by_cases e : i = s
    · subst e; exact absurd he hs
    · exact h.all i (by omega) he, by have := h.len6; omega, by have := h.len7; omega⟩
/-- Old notes of one source, up to a version. -/
structure OldOk (ws : List Work) (s v : Nat) (n0 : Note) (l6 l7 l : List Note) : Prop where
  src : ∀ b ∈ l, b ∈ l7 ∨ (b.work = (s : Int) ∧ 0 ≤ b.version ∧ b.version < (v : Int) ∧ 0 ≤ b.value ∧ b.value < 2000)
  uniq : Uniq ((l6 ++ [n0]) ++ l)
  len : l.length ≤ l7.length + v
theorem NtOk.start {ws : List Work} {s : Nat} {l6 l7 : List Note} (h : NtOk ws s l6 l7) {n0 : Note} (hw : n0.work = (s : Int)) : OldOk ws s 0 n0 l6 l7 l7 := by
  refine ⟨fun b hb => .inl hb, ?_, Nat.le_refl _⟩
  refine h.uniq.add (n := n0) (fun a ha => ?_) (fun a ha hh => ?_)
  · simp only [List.mem_append, List.mem_cons, List.not_mem_nil, or_false] at ha ⊢
    rcases ha with (ha | ha) | ha
    · exact .inl (.inl ha)
    · exact .inr ha
    · exact .inl (.inr ha)
  · have := h.src a ha
    rw [hw] at hh
    omega
theorem OldOk.skip {ws : List Work} {s v : Nat} {n0 : Note} {l6 l7 l : List Note} (h : OldOk ws s v n0 l6 l7 l) : OldOk ws s (v + 1) n0 l6 l7 l :=
  ⟨fun b hb => (h.src b hb).imp id fun x => ⟨x.1, x.2.1, by omega, x.2.2.2⟩, h.uniq, by have := h.len; omega⟩
theorem OldOk.put {ws : List Work} {s v : Nat} {n0 : Note} {l6 l7 l : List Note} (hN : NtOk ws s l6 l7) (h : OldOk ws s v n0 l6 l7 l) (hv : (v : Int) < n0.version) {z : Int} (z0 : 0 ≤ z) (z1 : z < 2000) :
    OldOk ws s (v + 1) n0 l6 l7 (l ++ [⟨(s : Int), (v : Int), z⟩]) := by
  refine ⟨fun b hb => ?_, ?_, by have := h.len; simp only [List.length_append, List.length_cons, List.length_nil]; omega⟩
  · rcases List.mem_append.1 hb with hb | hb
    · exact h.skip.src b hb
    · rw [List.mem_singleton] at hb
      subst hb
      exact .inr ⟨rfl, by dsimp only; omega, by dsimp only; omega, z0, z1⟩
  · refine h.uniq.add (n := ⟨(s : Int), (v : Int), z⟩) (fun a ha => ?_) (fun a ha hh => ?_)
    · rw [← List.append_assoc, List.mem_append, List.mem_singleton] at ha
      exact ha
    · dsimp only at hh
      simp only [List.mem_append, List.mem_cons, List.not_mem_nil, or_false] at ha
      rcases ha with (ha | ha) | ha
      · have := hN.src a (List.mem_append_left _ ha); omega
      · subst ha; omega
      · rcases h.src a ha with ha | ha
        · have := hN.src a (List.mem_append_right _ ha); omega
        · omega
theorem OldOk.done {ws : List Work} {s v : Nat} {n0 : Note} {l6 l7 l : List Note} (hN : NtOk ws s l6 l7) (h : OldOk ws s v n0 l6 l7 l) (hw : n0.work = (s : Int)) (hs : (ws.getD s default).of = [])
    (hv : 0 ≤ n0.version ∧ n0.version ≤ 8 ∧ 0 ≤ n0.value ∧ n0.value < 2000) (hv8 : (v : Int) ≤ 8) : NtOk ws (s + 1) (l6 ++ [n0]) l := by
  have hm : ∀ n ∈ (l6 ++ [n0]) ++ l, n ∈ l6 ++ l7 ∨ n = n0 ∨ (n.work = (s : Int) ∧ 0 ≤ n.version ∧ n.version < (v : Int) ∧ 0 ≤ n.value ∧ n.value < 2000) := by
    intro n hn
    simp only [List.mem_append, List.mem_cons, List.not_mem_nil, or_false] at hn ⊢
    rcases hn with (hn | hn) | hn
    · exact .inl (.inl hn)
    · exact .inr (.inl hn)
    · rcases h.src n hn with h1 | h1
      · exact .inl (.inr h1)
      · exact .inr (.inr h1)
  refine ⟨fun n hn => ?_, fun n hn => ?_, h.uniq, fun i hi he => ?_, ?_, ?_⟩
  · rcases hm n hn with h1 | h1 | h1
    · have := hN.src n h1; exact ⟨this.1, by omega, this.2.2⟩
    · subst h1; rw [hw]; exact ⟨by omega, by omega, by rw [Int.toNat_natCast]; exact hs⟩
    · rw [h1.1]; exact ⟨by omega, by omega, by rw [Int.toNat_natCast]; exact hs⟩
  · rcases hm n hn with h1 | h1 | h1
    · exact hN.rng n h1
    · subst h1; exact hv
    · omega
  · by_cases e : i = s
    · exact ⟨n0, by simp, by rw [hw, e]⟩
    · obtain ⟨n, h1, h2⟩ := hN.all i (by omega) he
      exact ⟨n, List.mem_append_left _ h1, h2⟩
  · have := hN.len6; simp only [List.length_append, List.length_cons, List.length_nil]; omega
  · have := hN.len7; have := h.len; omega
/-- The numbers from 0 to n - 1. -/
def upto (n : Nat) : List Int := (List.range n).map fun j : Nat => (j : Int)
end Go.Nm
namespace Go.Proofs.Ytndobgodeicloaa
open Go Go.Nm
variable {ws : List Work}
end Go.Proofs.Ytndobgodeicloaa
section
set_option maxRecDepth 100000
set_option maxHeartbeats 16000000
namespace Go.Proofs.Ytndobgodeicloaa
open Go Go.Nm
def m_nilometerlaw13_Revised_b0 (s_bytes : List UInt8) (w_ : List Work) : (Int × Int × Nat × (List Int)) → M ((Int × Int × Nat × (List Int)) ⊕ (Int × Int × (List Int) × (List Int))) := fun (s2, s3, s4, l) =>
  bif decide ((s4 : Int) < (w_.length : Int)) then (
  M.bind (m_nilometerkit_Stream_Next s_bytes s2 s3 4) fun (r2, q1, q2) =>
  bif r2 == 0 then (
  M.grd (decide ((l.length + ([(s4 : Int)]).length) * 8 ≤ 140737488355328)) <|
  M.pure (.inl (q1, q2, s4 + 1, l ++ ([(s4 : Int)]))))
  else (
  M.pure (.inl (q1, q2, s4 + 1, l))))
  else (
  M.pure (.inr (s2, s3, l, l)))
def m_nilometerlaw13_Revised (s_bytes : List UInt8) (s_used : Int) (s_mix : Int) (w_ : List Work) : M ((List Int) × Int × Int) :=
  M.bind (M.iter (m_nilometerlaw13_Revised_b0 s_bytes w_) (s_used, s_mix, 0, [])) fun (s5, s6, l2, l3) =>
  bif (l3.length : Int) == 0 then (
  M.bind (m_nilometerkit_Stream_Next s_bytes s5 s6 (w_.length : Int)) fun (r3, q12, q22) =>
  M.grd (decide ((l3.length + ([(r3 : Int)]).length) * 8 ≤ 140737488355328)) <|
  M.pure ((l3 ++ ([(r3 : Int)])), q12, q22))
  else (
  M.pure (l3, s5, s6))
theorem nilometerlaw13_Revised_ok {R : List Chunk} {b_s : Nat} {C_s_bytes : Cells} {v_s_bytes : Value} {C_w_ : Cells} {v_w_ : Value} (s_bytes : List UInt8) (s_used : Int) (s_mix : Int) (w_ : List Work) (hC_s_bytes : Reads R C_s_bytes) (hs_s_bytes : Sl C_s_bytes v_s_bytes s_bytes) (hC_w_ : Reads R C_w_) (hs_w_ : Sl C_w_ v_w_ w_) {r : ((List Int) × Int × Int)} (hM : (m_nilometerlaw13_Revised s_bytes s_used s_mix w_).Ends r) (w : World) (H : St w w [cBlk b_s [v_s_bytes, I s_used, I s_mix] 158] R) : Ret Try.prog 47 #[Pz b_s, v_w_] w fun v w' => ∃ (y0 : List Int) (y1 : Int) (y2 : Int) (u0 : Value), (y0, y1, y2) = r ∧ v = u0 ∧ St w w' [cOwn (α := Int) 3 u0 y0, cBlk b_s [v_s_bytes, I y1, I y2] 158] R := by
 refine ret_of_W Try.func47 rfl rfl rfl ?_
 refine sQ rfl <| sA (.slice none 0 0) rfl <| s_nil <| sQ rfl <| sA (.slice none 0 0) rfl <| s_nil <| W.seq <| sQ rfl <| sM v_w_ rfl ?_
 have hl1z := (hs_w_).len_le
 refine s_val (x_lenS T22.und rfl hs_w_) <| sM (I 0) rfl <| s_nil <| W.block ?_
 replace H : St w w [cOwn (α := Int) 3 (.slice none 0 0) ([]), cBlk b_s [v_s_bytes, I s_used, I s_mix] 158] R := H.nilOwn (α := Int) 3
 obtain ⟨ex2z, hi3z, hk4z⟩ := M.e_bind hM
 obtain ⟨m0_, hi3z⟩ := M.e_iter hi3z
 refine W.loop (fun m σ W => ∃ (s2 : Int) (s3 : Int) (s4 : Nat) (l : List Int) (v_l : Value) (ρ : Env), σ = upds ρ [(0, Pz b_s), (1, v_w_), (5, v_l), (8, I (w_.length : Int)), (9, I (s4 : Int))] ∧ M.iterN (m_nilometerlaw13_Revised_b0 s_bytes w_) m (s2, s3, s4, l) = some ex2z ∧ St w W [cOwn (α := Int) 3 v_l l, cBlk b_s [v_s_bytes, I s2, I s3] 158] R) ?_ ?_
 ·exact ⟨_, s_used, s_mix, 0, [], (.slice none 0 0), _, upds_of _ _ ⟨rfl, rfl, rfl, rfl, rfl, trivial⟩, hi3z, H⟩
 rintro m7z σ w5z ⟨s2, s3, s4, l, v_l, ρ, rfl, hI6z, H⟩
 obtain ⟨m8z, lt9z, x10z, hM, hN11z⟩ := M.e_iterN hI6z
 simp only [m_nilometerlaw13_Revised_b0] at hM
 clear hI6z
 refine sQ rfl <| sC (s4 : Int) (w_.length : Int) (decide ((s4 : Int) < (w_.length : Int))) rfl rfl rfl <| s_nil <| W.seq ?_
 refine W.cond (decide ((s4 : Int) < (w_.length : Int))) rfl (fun c12z => ?_) (fun c12z => ?_)
 ·replace hM := M.e_t hM c12z
  simp only [qz1, qz2, qz3, qz4, qz5, qz6, ne_eq, qz7] at c12z
  refine W.skip <| W.seq <| W.block <| sQ rfl <| sM (I (s4 : Int)) rfl <| sA (I (s4 : Int)) rfl <| s_nil <| sQ rfl <| sM (Pz b_s) rfl ?_
  obtain ⟨r14z, hx13z, hM⟩ := M.e_bind hM
  refine s_call cf44 [Pz b_s, I 4] rfl (nilometerkit_Stream_Next_ok s_bytes s2 s3 4 (hC_s_bytes.app _) hs_s_bytes hx13z _ (St.give (L := [cBlk b_s [v_s_bytes, I s2, I s3] 158, cOwn (α := Int) 3 v_l l]) (A := [cBlk b_s [v_s_bytes, I s2, I s3] 158]) (T := [cOwn (α := Int) 3 v_l l]) (H.pick [1, 0] (by decide) rfl) rfl)) ?_
  rintro vq w15z ⟨r2, q1, q2, hr16z, hvq, H2_⟩
  subst hr16z
  subst vq
  try dsimp only at hM
  replace H : St w w15z [cBlk b_s [v_s_bytes, I q1, I q2] 158, cOwn (α := Int) 3 v_l l] R := H.pick [1, 0] (by decide) rfl |>.back H2_ rfl
  clear H2_
  refine sC r2 0 (r2 == 0) rfl rfl rfl <| s_nil ?_
  refine W.cond (r2 == 0) rfl (fun c17z => ?_) (fun c17z => ?_)
  ·replace hM := M.e_t hM c17z
   simp only [qz1, qz2, qz3, qz4, qz5, qz6, ne_eq, qz7] at c17z
   refine W.region rfl <| sM v_l rfl <| sM (I (s4 : Int)) rfl ?_
   refine t_bs (α := Int) T34 [I (s4 : Int)] [(s4 : Int)] H rfl (.cons rfl (Flat.rep_enc _ (s4 : Int)) <| .nil) rfl rfl rfl ?_
   intro v18z w19z H
   obtain ⟨sd20z, hM⟩ := M.e_gd hM
   refine t_app (α := Int) (k := 2) (l := l) (l2 := [(s4 : Int)]) (l' := l ++ ([(s4 : Int)])) (vy := v18z) T34 rfl H rfl rfl rfl (ownSl (H.get (k := 0) rfl)) (ownLe _ (H.get (k := 0) rfl)) (rfl) (by first | omega | (simp only [List.length_nil] at *; omega)) ?_
   intro v21z w22z H
   replace H : St w w22z [cOwn (α := Int) 3 v18z ([(s4 : Int)]), cBlk b_s [v_s_bytes, I q1, I q2] 158, cOwn (α := Int) 3 v21z (l ++ ([(s4 : Int)]))] R := H
   refine sA v21z rfl <| s_nil <| W.region rfl <| sR (s4 : Int) 1 ((s4 : Int) + 1) rfl rfl rfl (by omega) <| sM (I ((s4 : Int) + 1)) rfl <| s_nil ?_
   exact ⟨m8z, lt9z, q1, q2, s4 + 1, l ++ ([(s4 : Int)]), v21z, _, upds_of _ _ ⟨rfl, rfl, rfl, rfl, rfl, trivial⟩, M.e_inl hM hN11z, (H.pick [2, 1] (by decide) rfl)⟩
  replace hM := M.e_f hM c17z
  simp only [qz1, qz2, qz3, qz4, qz5, qz6, ne_eq, qz7] at c17z
  refine W.skip <| W.region rfl <| sR (s4 : Int) 1 ((s4 : Int) + 1) rfl rfl rfl (by omega) <| sM (I ((s4 : Int) + 1)) rfl <| s_nil ?_
  exact ⟨m8z, lt9z, q1, q2, s4 + 1, l, v_l, _, upds_of _ _ ⟨rfl, rfl, rfl, rfl, rfl, trivial⟩, M.e_inl hM hN11z, (H.pick [1, 0] (by decide) rfl)⟩
 replace hM := M.e_f hM c12z
 simp only [qz1, qz2, qz3, qz4, qz5, qz6, ne_eq, qz7] at c12z
 refine W.exit ?_
 have hX23z := M.e_inr hM hN11z
 subst hX23z
 replace hM := hk4z
 try dsimp only at hM
 refine W.seq <| sQ rfl <| sM v_l rfl ?_
 have hl24z := ((ownSl (H.get (k := 0) rfl))).len_le
 refine s_val (x_lenS T34.und rfl (ownSl (H.get (k := 0) rfl))) <| sC (l.length : Int) 0 ((l.length : Int) == 0) rfl rfl rfl <| s_nil ?_
 refine W.cond ((l.length : Int) == 0) rfl (fun c25z => ?_) (fun c25z => ?_)
 ·replace hM := M.e_t hM c25z
  simp only [qz1, qz2, qz3, qz4, qz5, qz6, ne_eq, qz7] at c25z
  refine W.region rfl <| sM v_l rfl <| sM (Pz b_s) rfl <| sM v_w_ rfl ?_
  have hl26z := (hs_w_).len_le
  refine s_val (x_lenS T22.und rfl hs_w_) ?_
  obtain ⟨r28z, hx27z, hM⟩ := M.e_bind hM
  refine s_call cf44 [Pz b_s, I (w_.length : Int)] rfl (nilometerkit_Stream_Next_ok s_bytes s2 s3 (w_.length : Int) (hC_s_bytes.app _) hs_s_bytes hx27z _ (St.give (L := [cBlk b_s [v_s_bytes, I s2, I s3] 158, cOwn (α := Int) 3 v_l l]) (A := [cBlk b_s [v_s_bytes, I s2, I s3] 158]) (T := [cOwn (α := Int) 3 v_l l]) (H.pick [1, 0] (by decide) rfl) rfl)) ?_
  rintro vq w29z ⟨r3, q12, q22, hr30z, hvq, H2_⟩
  subst hr30z
  subst vq
  try dsimp only at hM
  replace H : St w w29z [cBlk b_s [v_s_bytes, I q12, I q22] 158, cOwn (α := Int) 3 v_l l] R := H.pick [1, 0] (by decide) rfl |>.back H2_ rfl
  clear H2_
  refine t_bs (α := Int) T34 [I r3] [(r3 : Int)] H rfl (.cons rfl (Flat.rep_enc _ (r3 : Int)) <| .nil) rfl rfl rfl ?_
  intro v31z w32z H
  obtain ⟨sd33z, hM⟩ := M.e_gd hM
  refine t_app (α := Int) (k := 2) (l := l) (l2 := [(r3 : Int)]) (l' := l ++ ([(r3 : Int)])) (vy := v31z) T34 rfl H rfl rfl rfl (ownSl (H.get (k := 0) rfl)) (ownLe _ (H.get (k := 0) rfl)) (rfl) (by first | omega | (simp only [List.length_nil] at *; omega)) ?_
  intro v34z w35z H
  replace H : St w w35z [cOwn (α := Int) 3 v31z ([(r3 : Int)]), cBlk b_s [v_s_bytes, I q12, I q22] 158, cOwn (α := Int) 3 v34z (l ++ ([(r3 : Int)]))] R := H
  refine sA v34z rfl <| s_nil <| sQ rfl <| sM v34z rfl <| sA v34z rfl <| s_nil ?_
  refine W.ret ?_
  have hr_ := M.e_pure hM
  exact ⟨_, resE_tmp rfl, ⟨(l ++ ([(r3 : Int)])), q12, q22, v34z, hr_, rfl, (H.pick [2, 1] (by decide) rfl)⟩⟩
 replace hM := M.e_f hM c25z
 simp only [qz1, qz2, qz3, qz4, qz5, qz6, ne_eq, qz7] at c25z
 refine W.skip <| sQ rfl <| sM v_l rfl <| sA v_l rfl <| s_nil ?_
 refine W.ret ?_
 have hr_ := M.e_pure hM
 exact ⟨_, resE_tmp rfl, ⟨l, s2, s3, v_l, hr_, rfl, H⟩⟩

def m_notes_Leads_1 (i : Int) (k02 : List Work) : M Bool :=
  M.pure (inB i 0 ((k02.length : Int) - 1))
def m_notes_web_leads_b0 (w__list_works : List Work) (line_ : List Int) : Nat → M (Nat ⊕ (Unit ⊕ Unit)) := fun i =>
  bif decide ((i : Int) < (line_.length : Int)) then (
  M.grd (decide ((i : Int) < (line_.length : Int))) <|
  M.grd (decide ((-9223372036854775808 : Int) ≤ ((i : Int) - 1)) && decide (((i : Int) - 1) ≤ (9223372036854775807 : Int))) <|
  M.grd (decide ((0 : Int) ≤ ((i : Int) - 1)) && decide (((i : Int) - 1) < (line_.length : Int))) <|
  M.bind (m_notes_web_of w__list_works (line_.getD i 0) (line_.getD (Int.toNat ((i : Int) - 1)) 0)) fun r2 =>
  bif !r2 then (
  M.pure (.inr (.inl ())))
  else (
  M.pure (.inl (i + 1))))
  else (
  M.pure (.inr (.inr ())))
def m_notes_web_leads (w__list_works : List Work) (line_ : List Int) : M Bool :=
  M.bind (M.iter (m_notes_web_leads_b0 w__list_works line_) 1) fun x_ => match x_ with
  | (.inl (_ : Unit)) => (
  M.pure false)
  | (.inr (_ : Unit)) => (
  M.pure (decide (0 < (line_.length : Int))))
def m_notes_Leads (w_ : List Work) (line_ : List Int) : M (Bool × Int) :=
  bif (openedE w_ == 0) then (
  bif (0 : Int) != 0 then (M.fail) else (M.bind (m_notes_every_int (fun xqz => m_notes_Leads_1 xqz w_) line_) fun r2 =>
  bif !r2 then (
  M.pure (false, 2))
  else (
  M.bind (m_notes_web_leads w_ line_) fun r3 =>
  M.pure (r3, 0))))
  else (
  bif (openedE w_) != 0 then (
  M.pure (false, (openedE w_)))
  else (
  M.bind (m_notes_every_int (fun xqz => m_notes_Leads_1 xqz w_) line_) fun r2 =>
  bif !r2 then (
  M.pure (false, 2))
  else (
  M.fail)))
end Go.Proofs.Ytndobgodeicloaa
end
namespace Go.Nm
end Go.Nm
namespace Go.Proofs.Ytndobgodeicloaa
open Go Go.Nm
variable {ws : List Work}
structure RevOk (ws : List Work) (rv : List Int) : Prop where
  some : rv ≠ []
  asc : rv.Pairwise (· < ·)
  lt : ∀ x ∈ rv, 0 ≤ x ∧ x < (ws.length : Int)
  few : rv.length ≤ ws.length
theorem RevOk.asked {rv : List Int} (h : RevOk ws rv) (hO : openedE ws = 0) : askedE ws rv = 0 := by rw [asked_list hO]; exact listed_of h.lt h.asc
theorem revised_out {b : List UInt8} {c u x : Int} (h : SOk c u x) (hc : c ≤ 100000000) (hw : ws.length ≤ 30) (h1 : 1 ≤ ws.length) :
    (m_nilometerlaw13_Revised b u x ws).Out (fun y => RevOk ws y.1 ∧ SOk (c + 100) y.2.1 y.2.2) := by
  unfold m_nilometerlaw13_Revised
  refine M.o_bind (P := fun y => SOk (c + 30) y.1 y.2.1 ∧ y.2.2.2.Pairwise (· < ·) ∧ (∀ x ∈ y.2.2.2, 0 ≤ x ∧ x < (ws.length : Int)) ∧ y.2.2.2.length ≤ ws.length) ?_ ?_
  · refine M.o_for ws.length (fun i st => st.2.2.1 = i ∧ SOk (c + (i : Int)) st.1 st.2.1 ∧ st.2.2.2.Pairwise (· < ·) ∧ (∀ x ∈ st.2.2.2, 0 ≤ x ∧ x < (i : Int)) ∧ st.2.2.2.length ≤ i) ?_ ?_ (s := (u, x, 0, [])) ⟨rfl, h.mono (by omega), by simp, by simp, by simp⟩
    · rintro i ⟨u, x, j, l⟩ hi ⟨rfl, ok, hp, hl, hle⟩
      dsimp only at hi ok hp hl hle ⊢
      simp only [m_nilometerlaw13_Revised_b0]
      refine M.o_t (by simpa using hi) (M.o_bind (next_out ok (by omega) (by omega)) ?_)
      rintro ⟨r, u', x'⟩ ⟨ok', _, _⟩
      dsimp only at ok' ⊢
      refine M.o_if (fun hb => ?_) (fun hb => ?_)
      · refine M.o_grdD (by simp only [List.length_cons, List.length_nil]; omega) (M.o_pure ⟨rfl, ok'.mono (by omega), pair_snoc hp (fun y hy => (hl y hy).2), fun y hy => ?_, by simp only [List.length_append, List.length_cons, List.length_nil]; omega⟩)
        rcases List.mem_append.1 hy with hy | hy
        · have := hl y hy; omega
        · rw [List.mem_singleton.1 hy]; omega
      · exact M.o_pure ⟨rfl, ok'.mono (by omega), hp, fun y hy => by have := hl y hy; omega, by dsimp only; omega⟩
    · rintro ⟨u, x, j, l⟩ ⟨rfl, ok, hp, hl, hle⟩
      dsimp only at ok hp hl hle ⊢
      simp only [m_nilometerlaw13_Revised_b0]
      exact M.o_f (by simp) (M.o_pure ⟨ok.mono (by omega), hp, hl, hle⟩)
  · rintro ⟨u, x, la, l⟩ ⟨ok, hp, hl, hle⟩
    dsimp only at ok hp hl hle ⊢
    refine M.o_if (fun hb => ?_) (fun hb => ?_)
    · have e : l = [] := List.eq_nil_of_length_eq_zero (by have := eq_of_beq hb; omega)
      subst e
      refine M.o_bind (next_out ok (by omega) (by omega)) ?_
      rintro ⟨r, u', x'⟩ ⟨ok', lt, _⟩
      dsimp only at ok' lt ⊢
      have lt := lt (by omega)
      refine M.o_grdD (by simp only [List.length_cons, List.length_nil]; omega) (M.o_pure ⟨⟨by simp, by simp, fun y hy => ?_, by simp; omega⟩, ok'.mono (by omega)⟩)
      simp only [List.nil_append, List.mem_cons, List.not_mem_nil, or_false] at hy
      rw [hy]
      exact lt
    · exact M.o_pure ⟨⟨fun e => by dsimp only at e; rw [e] at hb; simp at hb, hp, hl, hle⟩, ok.mono (by omega)⟩
end Go.Proofs.Ytndobgodeicloaa
namespace Go.Proofs.Ytndobgodeicloaa
open Go Go.Nm
variable {ws : List Work} {rev f : List Int}
/-! ### Fences -/
theorem containsFunc_ends {s : List Int} {f : Int → M Bool} {p : Int → Bool} (hf : ∀ x ∈ s, (f x).Ends (p x)) : (m_slices_ContainsFunc_int s f).Ends (s.any p) := by
  have key : ∃ r, (m_slices_IndexFunc_int s f).Ends r ∧ decide (0 ≤ r) = s.any p := by
    have h := M.i_loopQ (body := m_slices_IndexFunc_int_b0 s f) (fun r => match r with | .inl k => 0 ≤ k ∧ s.any p = true | .inr _ => s.any p = false)
      (fun m i => m = s.length - i ∧ i ≤ s.length ∧ (s.take i).any p = false) (by
        rintro m i ⟨rfl, hi, ha⟩
        simp only [m_slices_IndexFunc_int_b0]
        by_cases e : i < s.length
        · have hp := hf _ (getD_memN s (by omega : (i : Int) < _) 0)
          cases hc : p (s.getD i 0) with
          | true =>
            rw [hc] at hp
            exact .inr ⟨.inl (i : Int), M.i_t (by simpa using e) (M.grdD (by omega) (M.i_bind hp M.i_pure)), by omega, List.any_eq_true.2 ⟨_, getD_memN s (by omega : (i : Int) < _) 0, hc⟩⟩
          | false =>
            rw [hc] at hp
            exact .inl ⟨i + 1, s.length - (i + 1), by omega, M.i_t (by simpa using e) (M.grdD (by omega) (M.i_bind hp M.i_pure)), rfl, e, by rw [any_take_succ p s e 0, ha, hc]; rfl⟩
        · obtain rfl : i = s.length := by omega
          rw [List.take_length] at ha
          exact .inr ⟨.inr (), M.i_f (by simp) M.i_pure, ha⟩) _ 0 ⟨rfl, Nat.zero_le _, by simp⟩
    obtain ⟨r, h1, h2⟩ := h
    cases r with
    | inl k => exact ⟨k, M.i_bind h1 M.i_pure, by rw [h2.2]; simpa using h2.1⟩
    | inr u => exact ⟨-1, M.i_bind h1 M.i_pure, by dsimp only at h2; rw [h2]; rfl⟩
  obtain ⟨r, h1, h2⟩ := key
  rw [← h2]
  exact M.i_bind h1 M.i_pure
theorem every_ends {s : List Int} {f : Int → M Bool} {p : Int → Bool} (hf : ∀ x ∈ s, (f x).Ends (p x)) : (m_notes_every_int f s).Ends (s.all p) := by
  have h := containsFunc_ends (s := s) (f := fun x => m_notes_every_int__1 x f) (p := fun x => !(p x)) (fun x hx => M.i_bind (hf x hx) M.i_pure)
  have e : s.all p = !(s.any fun x => !(p x)) := by rw [List.all_eq_not_any_not]
  rw [e]
  exact M.i_bind h M.i_pure
/-- Is a work that is made of one outside a list? -/
def leak (ws : List Work) (f : List Int) (x : Int) (j : Nat) : Bool := (ws.getD j default).of.contains x && !(f.contains (j : Int))
theorem made_ends (x : Int) : (m_notes_web_made_1 (M.yl (m_notes_Fences_b3 f)) (.inl ()) ws x).Ends (if (List.range ws.length).any (leak ws f x) then .inr () else .inl ()) := by
  have h := M.i_loopQ (body := m_notes_web_made_1_b0 (M.yl (m_notes_Fences_b3 f)) ws x) (fun r => match r with | .inl t => t = .inr () ∧ (List.range ws.length).any (leak ws f x) = true | .inr t => t = .inl () ∧ (List.range ws.length).any (leak ws f x) = false)
    (fun m s => m = ws.length - s.1 ∧ s.1 ≤ ws.length ∧ s.2 = .inl () ∧ (List.range s.1).any (leak ws f x) = false) (by
      rintro m ⟨i, t⟩ ⟨rfl, hi, ht, ha⟩
      dsimp only at hi ht ha ⊢
      subst ht
      simp only [m_notes_web_made_1_b0]
      by_cases e : i < ws.length
      · have ho : (m_notes_web_of ws (i : Int) x).Ends ((ws.getD i default).of.contains x) := by
          have := (M.i_grd (k := M.pure (((ws.getD (Int.toNat (i : Int)) default).of).contains x)) (gA2 (p := (0 : Int) ≤ (i : Int)) (q := (i : Int) < (ws.length : Int)) (by omega) (by omega)) M.i_pure)
          rw [Int.toNat_natCast] at this
          unfold m_notes_web_of
          rw [Int.toNat_natCast]
          exact this
        cases hc : (ws.getD i default).of.contains x with
        | true =>
          rw [hc] at ho
          cases hc2 : f.contains (i : Int) with
          | true =>
            have hy : (M.yl (m_notes_Fences_b3 f) (.inl ()) (i : Int)).Ends (true, .inl ()) := by
              simp only [M.yl, m_notes_Fences_b3, m_notes_Fences_1, hc2]
              exact M.i_bind (M.i_bind M.i_pure (M.i_f rfl M.i_pure)) M.i_pure
            exact .inl ⟨(i + 1, .inl ()), ws.length - (i + 1), by omega, M.i_t (by simpa using e) (M.i_bind ho (M.i_t rfl (M.i_bind hy (M.i_f rfl M.i_pure)))), rfl, e, rfl, by rw [any_range_succ, ha]; unfold leak; rw [hc, hc2]; rfl⟩
          | false =>
            have hy : (M.yl (m_notes_Fences_b3 f) (.inl ()) (i : Int)).Ends (false, .inr ()) := by
              simp only [M.yl, m_notes_Fences_b3, m_notes_Fences_1, hc2]
              exact M.i_bind (M.i_bind M.i_pure (M.i_t rfl M.i_pure)) M.i_pure
            exact .inr ⟨.inl (.inr ()), M.i_t (by simpa using e) (M.i_bind ho (M.i_t rfl (M.i_bind hy (M.i_t rfl M.i_pure)))), rfl, List.any_eq_true.2 ⟨i, List.mem_range.2 e, by unfold leak; rw [hc, hc2]; rfl⟩⟩
        | false =>
          rw [hc] at ho
          exact .inl ⟨(i + 1, .inl ()), ws.length - (i + 1), by omega, M.i_t (by simpa using e) (M.i_bind ho (M.i_f rfl (M.i_f rfl M.i_pure))), rfl, e, rfl, by rw [any_range_succ, ha]; unfold leak; rw [hc]; rfl⟩
      · obtain rfl : i = ws.length := by omega
        exact .inr ⟨.inr (.inl ()), M.i_f (by simp) M.i_pure, rfl, ha⟩) _ (0, .inl ()) ⟨rfl, Nat.zero_le _, rfl, by simp⟩
  obtain ⟨r, h1, h2⟩ := h
  unfold m_notes_web_made_1
  cases r with
  | inl t =>
    obtain ⟨h3, h4⟩ := h2
    subst h3
    rw [h4]
    exact M.i_bind h1 M.i_pure
  | inr t =>
    obtain ⟨h3, h4⟩ := h2
    subst h3
    rw [h4]
    exact M.i_bind h1 M.i_pure
theorem closed_leak : closedB ws f = !((List.range f.length).any fun s => (List.range ws.length).any (leak ws f (f.getD s 0))) := by
  have e : ∀ {a b : Bool}, (a = true ↔ b = false) → a = !b := fun {a b} h => by cases a <;> cases b <;> simp_all
  refine e ?_
  unfold closedB
  rw [List.all_eq_true, List.any_eq_false]
  constructor
  · intro h s hs hh
    obtain ⟨j, hj, hl⟩ := List.any_eq_true.1 hh
    have h1 := List.all_eq_true.1 (h j hj)
    unfold leak at hl
    rw [Bool.and_eq_true, List.contains_iff_mem] at hl
    have h2 := h1 _ hl.1
    have h3 : f.contains (f.getD s 0) = true := by
      rw [List.contains_iff_mem]
      exact getD_memN f (by have := List.mem_range.1 hs; omega) 0
    rw [h3] at h2
    have h4 := hl.2
    rw [Bool.not_eq_true'] at h4
    rw [h4] at h2
    cases h2
  · intro h i hi
    rw [List.all_eq_true]
    intro k hk
    cases hc : f.contains k with
    | false => rfl
    | true =>
      rw [List.contains_iff_mem] at hc
      obtain ⟨s, hs, he⟩ := mem_getD hc 0
      have h1 := h s (List.mem_range.2 hs)
      rw [Bool.not_eq_true, List.any_eq_false] at h1
      have h2 := h1 i hi
      unfold leak at h2
      rw [he] at h2
      have h3 : (ws.getD i default).of.contains k = true := by rw [List.contains_iff_mem]; exact hk
      rw [h3] at h2
      simpa using h2
theorem fences_no (h : fencesE ws rev f ≠ 0) : fencesR ws rev f = false := by unfold fencesR; rw [if_neg h]
theorem notesFences_ends (ws : List Work) (rev f : List Int) : (m_notes_Fences ws rev f).Ends (fencesR ws rev f, fencesE ws rev f) := by
  unfold m_notes_Fences
  by_cases h : askedE ws rev = 0
  · have e0 : fencesE ws rev f = listedE ws.length f := by unfold fencesE; rw [if_neg (by simp [h])]
    refine M.i_t (by simp [h]) (M.i_t rfl ?_)
    by_cases hL : listedE ws.length f = 0
    · have e1 : fencesR ws rev f = ((rev.all fun x => f.contains x) && closedB ws f) := by unfold fencesR; rw [if_pos (by rw [e0]; exact hL)]
      refine M.i_f (by simp [hL]) (M.i_bind (M.i_scan f.length (fun s => (List.range ws.length).any (leak ws f (f.getD s 0))) (fun i hi _ => ?_) (fun _ => ?_)) ?_)
      · simp only [m_notes_Fences_b4]
        refine M.i_t (by simpa using hi) (M.grdD (by omega) (M.i_bind (M.i_pure : (m_notes_web_made ws (f.getD i 0)).Ends (f.getD i 0)) (M.i_bind (made_ends _) ?_)))
        cases (List.range ws.length).any (leak ws f (f.getD i 0)) <;> exact M.i_pure
      · simp only [m_notes_Fences_b4]
        exact M.i_f (by simp) M.i_pure
      · rw [e0, e1, hL, closed_leak]
        cases (List.range f.length).any fun s => (List.range ws.length).any (leak ws f (f.getD s 0)) with
        | true => simp only [if_true, Bool.not_true, Bool.and_false]; exact M.i_pure
        | false =>
          simp only [Bool.false_eq_true, if_false, Bool.not_false, Bool.and_true]
          exact M.i_bind (every_ends (fun x _ => (M.i_pure : (m_notes_Fences_1 x f).Ends (f.contains x)))) M.i_pure
    · rw [fences_no (by rw [e0]; exact hL), e0]
      exact M.i_t (by simpa using hL) M.i_pure
  · have e0 : fencesE ws rev f = askedE ws rev := by unfold fencesE; rw [if_pos h]
    rw [fences_no (by rw [e0]; exact h), e0]
    exact M.i_f (by simpa using h) (M.i_f (by simpa using h) (M.i_t (by simpa using h) M.i_pure))
end Go.Proofs.Ytndobgodeicloaa
namespace Go.Nm
variable {ws : List Work} {rv f : List Int}
theorem closed_iff : closedB ws f = true ↔ ∀ i, i < ws.length → ∀ k ∈ (ws.getD i default).of, k ∈ f → (i : Int) ∈ f := by
  unfold closedB
  rw [List.all_eq_true]
  constructor
  · intro h i hi k hk hf
    have h1 := List.all_eq_true.1 (h i (List.mem_range.2 hi)) k hk
    have h2 : f.contains k = true := by rw [List.contains_iff_mem]; exact hf
    rw [h2] at h1
    have h3 : f.contains (i : Int) = true := by simpa using h1
    rwa [List.contains_iff_mem] at h3
  · intro h i hi
    rw [List.all_eq_true]
    intro k hk
    cases hc : f.contains k with
    | false => rfl
    | true =>
      rw [List.contains_iff_mem] at hc
      have := h i (List.mem_range.1 hi) k hk hc
      rw [← List.contains_iff_mem] at this
      rw [this]
      rfl
structure FenceW (ws : List Work) (rv f : List Int) : Prop where
  rev : ∀ x ∈ rv, x ∈ f
  cl : ∀ i, i < ws.length → ∀ k ∈ (ws.getD i default).of, k ∈ f → (i : Int) ∈ f
theorem fence_iff (hE : fencesE ws rv f = 0) : fencesR ws rv f = true ↔ FenceW ws rv f := by
  unfold fencesR
  rw [if_pos hE, Bool.and_eq_true, closed_iff, List.all_eq_true]
  constructor
  · rintro ⟨h1, h2⟩
    exact ⟨fun x hx => by have := h1 x hx; rwa [List.contains_iff_mem] at this, h2⟩
  · rintro ⟨h1, h2⟩
    exact ⟨fun x hx => by rw [List.contains_iff_mem]; exact h1 x hx, h2⟩
/-- A fence has all that is stale. -/
theorem FenceW.all (h : FenceW ws rv f) (hB : Built ws) : ∀ i, i < ws.length → (staleL ws rv).getD i false = true → (i : Int) ∈ f := by
  intro i
  induction i using Nat.strongRecOn with
  | _ i ih =>
    intro hi hs
    have he := stale_eq hB.opened rv (i := (i : Int)) (by omega) (by omega)
    rw [Int.toNat_natCast, hs] at he
    have he := he.symm
    rw [Bool.or_eq_true] at he
    rcases he with he | he
    · exact h.rev _ (by simpa using he)
    · obtain ⟨k, hk, hks⟩ := List.any_eq_true.1 he
      have ha := (hB.at_ i hi).ahead k hk
      have := ih k.toNat (by omega) (by omega) hks
      rw [Int.toNat_of_nonneg ha.1] at this
      exact h.cl i hi k hk this
theorem stale_fence (hO : openedE ws = 0) (hA : askedE ws rv = 0) : FenceW ws rv (staleR ws rv) := by
  have hl := (listed_rng (asked_ok hA).2).1
  refine ⟨fun x hx => ?_, fun i hi k hk hf => ?_⟩
  · have := hl x hx
    rw [staleL_mem hA]
    refine ⟨this.1, this.2, ?_⟩
    rw [stale_eq hO rv this.1 this.2]
    simp [hx]
  · rw [staleL_mem hA] at hf ⊢
    refine ⟨by omega, by omega, ?_⟩
    rw [stale_eq hO rv (by omega) (by omega), Bool.or_eq_true]
    exact .inr (List.any_eq_true.2 ⟨k, by simpa using hk, hf.2.2⟩)
theorem stT_asc (ws : List Work) (rv : List Int) (n : Nat) : (stT ws rv n).Pairwise (· < ·) := by
  unfold stT
  rw [List.pairwise_map]
  exact List.Pairwise.imp (fun h => by omega) (List.Pairwise.filter _ List.pairwise_lt_range)
theorem stale_asc (ws : List Work) (rv : List Int) : (staleR ws rv).Pairwise (· < ·) := by
  unfold staleR
  split
  · exact stT_asc ws rv _
  · simp
theorem stale_range (hA : askedE ws rv = 0) : ∀ x ∈ staleR ws rv, 0 ≤ x ∧ x < (ws.length : Int) := fun x hx => by
  have := (staleL_mem hA x).1 hx
  exact ⟨this.1, this.2.1⟩
/-- More revised works, more stale ones. -/
theorem stale_more (hB : Built ws) {r1 r2 : List Int} (h : ∀ x ∈ r1, x ∈ r2 ∨ ((staleL ws r2).getD x.toNat false = true)) : ∀ i, i < ws.length → (staleL ws r1).getD i false = true → (staleL ws r2).getD i false = true := by
  intro i
  induction i using Nat.strongRecOn with
  | _ i ih =>
    intro hi hs
    have h1 := stale_eq hB.opened r1 (i := (i : Int)) (by omega) (by omega)
    have h2 := stale_eq hB.opened r2 (i := (i : Int)) (by omega) (by omega)
    rw [Int.toNat_natCast] at h1 h2
    rw [hs] at h1
    have h1 := h1.symm
    rw [Bool.or_eq_true] at h1
    rcases h1 with h1 | h1
    · rcases h _ (by simpa using h1 : (i : Int) ∈ r1) with h3 | h3
      · rw [h2, Bool.or_eq_true]
        exact .inl (by simpa using h3)
      · rw [Int.toNat_natCast] at h3
        exact h3
    · obtain ⟨k, hk, hks⟩ := List.any_eq_true.1 h1
      have ha := (hB.at_ i hi).ahead k hk
      rw [h2, Bool.or_eq_true]
      exact .inr (List.any_eq_true.2 ⟨k, hk, ih k.toNat (by omega) (by omega) hks⟩)
theorem staleR_eq {r1 r2 : List Int} (h1 : askedE ws r1 = 0) (h2 : askedE ws r2 = 0) (h : ∀ i, i < ws.length → (staleL ws r1).getD i false = (staleL ws r2).getD i false) : staleR ws r1 = staleR ws r2 := by
  unfold staleR
  rw [if_pos h1, if_pos h2]
  unfold stT
  congr 1
  exact List.filter_congr fun j hj => h j (List.mem_range.1 hj)
end Go.Nm
namespace Go.Proofs.Ytndobgodeicloaa
open Go Go.Nm
variable {ws : List Work} {rv : List Int}
theorem fencesE_of (hA : askedE ws rv = 0) {f : List Int} (h : ∀ x ∈ f, 0 ≤ x ∧ x < (ws.length : Int)) (ha : f.Pairwise (· < ·)) : fencesE ws rv f = 0 := by
  unfold fencesE
  rw [if_neg (by simp [hA])]
  exact listed_of h ha
end Go.Proofs.Ytndobgodeicloaa
namespace Go.Proofs.Ytndobgodeicloaa
open Go Go.Nm
theorem awake_ends : m_nilometerlaw13_awake.Ends true := ⟨40, by kernel_rfl⟩
end Go.Proofs.Ytndobgodeicloaa
namespace Go.Proofs
open Go.Shelf
def Try.layDel_ren : Go.Shelf.Ren := ⟨fun | 23 => 50 | n => n, fun | 22 => 34 | 3 => 3 | 4 => 4 | 0 => 0 | n => n, fun | n => n⟩
theorem Try.layDel : Go.Proofs.Lays2.n23 Try.prog Try.layDel_ren := {
  mixed := by kernel_rfl
  f23 := Try.func50.trans (congrArg some (by kernel_rfl))
  t0 := Try.underlying0
  a0 := Try.isAgg0
  z0 := Try.sizeOf0
  v0 := Try.zeroValue0
  t3 := Try.underlying3
  a3 := Try.isAgg3
  z3 := Try.sizeOf3
  v3 := Try.zeroValue3
  t4 := Try.underlying4
  a4 := Try.isAgg4
  z4 := Try.sizeOf4
  v4 := Try.zeroValue4
  t22 := Try.underlying34
  a22 := Try.isAgg34
  z22 := Try.sizeOf34
  v22 := Try.zeroValue34
  i3 := by kernel_rfl }
end Go.Proofs
namespace Go.Nm
open Go Go.Sort
theorem mapBlock_setRow {w : World} {g : Nat} {cur : Array Value} {t : TypeId} {fr : Nat × Nat} (f : Array Value → Array Value) (hg : w.heap[g]? = some (.cells cur t fr)) : mapBlock w g f = w.setRow g (f cur) := by
  unfold mapBlock World.setRow
  congr 1
  apply Array.ext_getElem?
  intro k
  rw [Array.getElem?_modify, Array.getElem?_modify]
  by_cases e : g = k
  · subst e
    rw [if_pos rfl, if_pos rfl, hg]
    rfl
  · rw [if_neg e, if_neg e]
theorem putCells_take (X : List Int) (cur : Array Value) (h : X.length ≤ cur.size) {n : Nat} (hn : n ≤ X.length) : (putCells (Value.int .i64) 0 X.toArray cur).toList.take n = (X.take n).map I := by
  apply List.ext_getElem?
  intro k
  rw [List.getElem?_take, List.getElem?_map, List.getElem?_take]
  split
  · rename_i hk
    have hc : cur[k]? = some cur[k] := Array.getElem?_eq_getElem (by omega)
    simp only [putCells, Array.getElem?_toList, Array.getElem?_mapIdx, hc, Option.map_some]
    rw [if_pos ⟨Nat.zero_le _, by simp; omega⟩]
    rw [List.getElem?_eq_getElem (by omega : k < X.length)]
    simp [getElem!_pos, show k < X.length by omega]
  · rfl
end Go.Nm
namespace Go.Proofs.Ytndobgodeicloaa
open Go Go.Nm Go.Proofs Go.Sort
theorem delete_any {B : Nat} {e : TypeId} {w : World} {v : Value} {l : List Int} (ho : OwnF B e w v l) {i j : Int} (h0 : 0 ≤ i) (hij : i < j) (hj : j ≤ l.length) :
    Ret Try.prog 50 #[v, I i, I j] w fun u w' => OwnF B e w' u (l.take i.toNat ++ l.drop j.toNat) ∧ Grow B v w w' ∧ u.ownBlock = v.ownBlock := by
  obtain ⟨i, rfl⟩ := Int.eq_ofNat_of_zero_le h0
  obtain ⟨j, rfl⟩ := Int.eq_ofNat_of_zero_le (show 0 ≤ j by omega)
  rw [Int.toNat_natCast, Int.toNat_natCast]
  have ho' := ho
  rcases ho.2 with ⟨rfl, hn⟩ | ⟨g, cap, cur, rfl, hb, hg, hc, hm, hcs, htake⟩
  · omega
  · have hs1 : Elt.sz Int = 1 := rfl
    rw [hs1] at hcs htake
    rw [enc_ints] at htake
    have hcell : ∀ k, k < l.length → w.cell? ⟨g, 0 + k, none⟩ = some (.int .i64 (l.getD k 0)) := by
      intro k hk
      rw [Nat.zero_add, cell_of_row w g k cur e (0, 0) hg]
      have h1 : (cur.toList.take (l.length * 1))[k]? = (l.map I)[k]? := by rw [htake]
      rw [List.getElem?_take, if_pos (by omega), List.getElem?_map, getD_some l hk 0] at h1
      simpa using h1
    have hH : Holds (Value.int .i64) w g 0 l.toArray := by
      intro k hk
      have hk : k < l.length := by simpa using hk
      refine ⟨?_, by simp [World.frozen?, hg]⟩
      rw [hcell k hk]
      have : l.getD k 0 = l.toArray[k]! := by
        rw [List.getD_eq_getElem?_getD, List.getElem?_eq_getElem hk]
        simp [getElem!_pos, hk]
      rw [this]
    refine Calls.mono (Any.slices_Delete_int Try.layDel g 0 cap i j l w hH hc (by simp [maxLen] at hm; omega) (by omega) (by omega)) ?_
    rintro _ w' ⟨rfl, q, rfl⟩
    have hX : (l.take i ++ l.drop j ++ List.replicate (j - i) 0).length = l.length := by
      simp only [List.length_append, List.length_take, List.length_drop, List.length_replicate]
      omega
    have hN : (l.take i ++ l.drop j).length = l.length - (j - i) := by
      simp only [List.length_append, List.length_take, List.length_drop]
      omega
    have hg' : (Sort.ahead w q).heap[g]? = some (.cells cur e (0, 0)) := hg
    have hpr : ∀ X : List Int, putRow (Value.int .i64) (Sort.ahead w q) g 0 X.toArray = (Sort.ahead w q).setRow g (putCells (Value.int .i64) 0 X.toArray cur) := fun X => by
      unfold putRow
      exact mapBlock_setRow _ hg'
    rw [hpr]
    refine ⟨_, rfl, ⟨by rw [enc_ints]; simp [hs1], .inr ⟨g, cap, _, by rw [hN], hb, setRow_heap _ g cur _ e (0, 0) hg', by omega, hm, by simp [hs1, putCells]; omega, ?_⟩⟩, ⟨rfl, rfl, by simp [World.setRow, Sort.ahead], fun k _ hk => ?_, fun g' hg' => (ho'.lt g' hg').1, frozen_setRow _ _ _⟩, rfl⟩
    · rw [enc_ints, hs1, Nat.mul_one, putCells_take _ _ (by omega) (by omega), hN, ← hN, List.take_left]
    · rw [setRow_other]
      · rfl
      · intro e'
        apply hk
        rw [e']
        rfl
end Go.Proofs.Ytndobgodeicloaa
section
set_option maxRecDepth 100000
set_option maxHeartbeats 16000000
namespace Go.Proofs.Ytndobgodeicloaa
open Go Go.Nm
def m_nilometerlaw13_NotesFenced_1 (k : Int) (k02 : List Int) : M Bool :=
  M.pure (k02.contains k)
theorem nilometerlaw13_NotesFenced_1_ok {R : List Chunk} {b_k0 : Nat} {C_k02 : Cells} {v_k02 : Value} (k : Int) (k02 : List Int) (hC_k02 : Reads R C_k02) (hs_k02 : Sl C_k02 v_k02 k02) (h_b_k0 : Has R (cBlk b_k0 [v_k02] 34)) {r : Bool} (hM : (m_nilometerlaw13_NotesFenced_1 k k02).Ends r) (w : World) (H : St w w [] R) : Ret Try.prog 49 #[I k, Pz b_k0] w fun v w' => ∃ (y0 : Bool), y0 = r ∧ v = B y0 ∧ St w w' [] R := by
 refine ret_of_W Try.func49 rfl rfl rfl ?_
 refine sQ rfl <| sA (B false) rfl <| s_nil <| sQ rfl <| s_val (x_ld (p := Pz b_k0) (v := v_k02) rfl (ldb_sc Sc34 (h_b_k0.blk H) rfl)) <| sM (I k) rfl ?_
 refine s_call cf45 [v_k02, I k] rfl (contains_int k _ (hs_k02.mono (hC_k02.at H))) ?_
 rintro _ w1z ⟨rfl, hx_⟩
 replace H : St w w1z [] R := H.ext hx_
 clear hx_
 refine sA (B (k02.contains k)) rfl <| s_nil ?_
 refine W.ret ?_
 have hr_ := M.e_pure hM
 exact ⟨_, resE_tmp rfl, ⟨(k02.contains k), hr_, rfl, H⟩⟩

def m_nilometerlaw13_NotesFenced_b6 (tries : List UInt8) (r3 : List Work) (r4 : List Int) : (Int × Int × Nat × (List Int)) → M ((Int × Int × Nat × (List Int)) ⊕ (Int × Int × (List Int) × (List Int))) := fun (s, s2, s3, l2) =>
  bif decide ((s3 : Int) < (r3.length : Int)) then (
  bif !(r4.contains (s3 : Int)) then (
  M.bind (m_nilometerkit_Stream_Next tries s s2 5) fun (r109, q1103, q2103) =>
  bif !((r4.contains (s3 : Int)) || (r109 == 0)) then (
  M.bind (m_nilometerkit_Stream_Next tries q1103 q2103 6) fun (r114, q1104, q2104) =>
  M.grd ((!((!((r4.contains (s3 : Int)) || (r109 == 0))) && (decide (0 < r114))) || (decide ((s3 : Int) < (r3.length : Int))))) <|
  M.bind (M.opt ((!((r4.contains (s3 : Int)) || (r109 == 0))) && (decide (0 < r114))) (m_slices_ContainsFunc_int ((r3.getD s3 default).of) (fun xqz => m_nilometerlaw13_NotesFenced_1 xqz l2)) false) fun r7 =>
  bif (((r4.contains (s3 : Int)) || (r109 == 0)) || ((decide (0 < r114)) && r7)) then (
  M.grd (decide ((l2.length + ([(s3 : Int)]).length) * 8 ≤ 140737488355328)) <|
  M.pure (.inl (q1104, q2104, s3 + 1, l2 ++ ([(s3 : Int)]))))
  else (
  M.pure (.inl (q1104, q2104, s3 + 1, l2))))
  else (
  M.grd ((!((!((r4.contains (s3 : Int)) || (r109 == 0))) && (decide ((0 : Int) < 0))) || (decide ((s3 : Int) < (r3.length : Int))))) <|
  M.bind (M.opt ((!((r4.contains (s3 : Int)) || (r109 == 0))) && (decide ((0 : Int) < 0))) (m_slices_ContainsFunc_int ((r3.getD s3 default).of) (fun xqz => m_nilometerlaw13_NotesFenced_1 xqz l2)) false) fun r7 =>
  bif (((r4.contains (s3 : Int)) || (r109 == 0)) || ((decide ((0 : Int) < 0)) && r7)) then (
  M.grd (decide ((l2.length + ([(s3 : Int)]).length) * 8 ≤ 140737488355328)) <|
  M.pure (.inl (q1103, q2103, s3 + 1, l2 ++ ([(s3 : Int)]))))
  else (
  M.pure (.inl (q1103, q2103, s3 + 1, l2)))))
  else (
  bif !((r4.contains (s3 : Int)) || ((0 : Int) == 0)) then (
  M.bind (m_nilometerkit_Stream_Next tries s s2 6) fun (r115, q1105, q2105) =>
  M.grd ((!((!((r4.contains (s3 : Int)) || ((0 : Int) == 0))) && (decide (0 < r115))) || (decide ((s3 : Int) < (r3.length : Int))))) <|
  M.bind (M.opt ((!((r4.contains (s3 : Int)) || ((0 : Int) == 0))) && (decide (0 < r115))) (m_slices_ContainsFunc_int ((r3.getD s3 default).of) (fun xqz => m_nilometerlaw13_NotesFenced_1 xqz l2)) false) fun r7 =>
  bif (((r4.contains (s3 : Int)) || ((0 : Int) == 0)) || ((decide (0 < r115)) && r7)) then (
  M.grd (decide ((l2.length + ([(s3 : Int)]).length) * 8 ≤ 140737488355328)) <|
  M.pure (.inl (q1105, q2105, s3 + 1, l2 ++ ([(s3 : Int)]))))
  else (
  M.pure (.inl (q1105, q2105, s3 + 1, l2))))
  else (
  M.grd ((!((!((r4.contains (s3 : Int)) || ((0 : Int) == 0))) && (decide ((0 : Int) < 0))) || (decide ((s3 : Int) < (r3.length : Int))))) <|
  M.bind (M.opt ((!((r4.contains (s3 : Int)) || ((0 : Int) == 0))) && (decide ((0 : Int) < 0))) (m_slices_ContainsFunc_int ((r3.getD s3 default).of) (fun xqz => m_nilometerlaw13_NotesFenced_1 xqz l2)) false) fun r7 =>
  bif (((r4.contains (s3 : Int)) || ((0 : Int) == 0)) || ((decide ((0 : Int) < 0)) && r7)) then (
  M.grd (decide ((l2.length + ([(s3 : Int)]).length) * 8 ≤ 140737488355328)) <|
  M.pure (.inl (s, s2, s3 + 1, l2 ++ ([(s3 : Int)]))))
  else (
  M.pure (.inl (s, s2, s3 + 1, l2))))))
  else (
  M.pure (.inr (s, s2, l2, l2)))
def m_nilometerlaw13_NotesFenced_b7 (l : List Int) (l4 : List Int) (r0 : Bool) : Nat → M (Nat ⊕ (Unit ⊕ Unit)) := fun s6 =>
  bif decide ((s6 : Int) < (l.length : Int)) then (
  M.grd (decide ((s6 : Int) < (l.length : Int))) <|
  bif (r0 && (!(l4.contains (l.getD s6 0)))) then (
  M.pure (.inr (.inl ())))
  else (
  M.pure (.inl (s6 + 1))))
  else (
  M.pure (.inr (.inr ())))
def m_nilometerlaw13_NotesFenced_b8 (l : List Int) (l4 : List Int) (r0 : Bool) : Nat → M (Nat ⊕ (Unit ⊕ Unit)) := fun s6 =>
  bif decide ((s6 : Int) < (l.length : Int)) then (
  M.grd (decide ((s6 : Int) < (l.length : Int))) <|
  bif (r0 && (!(l4.contains (l.getD s6 0)))) then (
  M.pure (.inr (.inl ())))
  else (
  M.pure (.inl (s6 + 1))))
  else (
  M.pure (.inr (.inr ())))
def m_nilometerlaw13_NotesFenced_b9 (tries : List UInt8) (r3 : List Work) (r4 : List Int) (l : List Int) : (Int × Int × Nat × (List (List Int))) → M ((Int × Int × Nat × (List (List Int))) ⊕ (((List (List Int)) × Int × Int) ⊕ (Int × Int × (List (List Int)) × (List (List Int))))) := fun (s7, s8, s9, l5) =>
  bif decide ((s9 : Int) < 6) then (
  M.bind (M.iter (m_nilometerlaw13_NotesFenced_b6 tries r3 r4) (s7, s8, 0, [])) fun (s4, s5, l3, l4) =>
  M.bind (m_notes_Fences r3 r4 l4) fun (r0, r110) =>
  bif r110 != 0 then (
  M.pure (.inr (.inl (l5, s4, s5))))
  else (
  bif r0 then (
  M.grd (decide ((l5.length + ([l4]).length) * 24 ≤ 140737488355328)) <|
  M.bind (M.iter (m_nilometerlaw13_NotesFenced_b7 l l4 r0) 0) fun x_ => match x_ with
  | (.inl (_ : Unit)) => (
  M.pure (.inr (.inl (l5 ++ ([l4]), s4, s5))))
  | (.inr (_ : Unit)) => (
  M.pure (.inl (s4, s5, s9 + 1, l5 ++ ([l4])))))
  else (
  M.bind (M.iter (m_nilometerlaw13_NotesFenced_b8 l l4 r0) 0) fun x_ => match x_ with
  | (.inl (_ : Unit)) => (
  M.pure (.inr (.inl (l5, s4, s5))))
  | (.inr (_ : Unit)) => (
  M.pure (.inl (s4, s5, s9 + 1, l5))))))
  else (
  M.pure (.inr (.inr (s7, s8, l5, l5))))
def m_nilometerlaw13_NotesFenced_b10 (r3 : List Work) (l8 : List (List Int)) : (Nat × (List Int) × (List Int)) → M ((Nat × (List Int) × (List Int)) ⊕ ((List Int) × (List Int) × (List Int) × (List Int))) := fun (s14, l9, l10) =>
  bif decide ((s14 : Int) < (r3.length : Int)) then (
  M.grd (decide (0 < (l8.length : Int))) <|
  bif (((l8.getD 0 ([])).contains (s14 : Int)) && ((l8.getD 1 ([])).contains (s14 : Int))) then (
  M.grd (decide ((l9.length + ([(s14 : Int)]).length) * 8 ≤ 140737488355328)) <|
  bif (((l8.getD 0 ([])).contains (s14 : Int)) || ((l8.getD 1 ([])).contains (s14 : Int))) then (
  M.grd (decide ((l10.length + ([(s14 : Int)]).length) * 8 ≤ 140737488355328)) <|
  M.pure (.inl (s14 + 1, l9 ++ ([(s14 : Int)]), l10 ++ ([(s14 : Int)]))))
  else (
  M.pure (.inl (s14 + 1, l9 ++ ([(s14 : Int)]), l10))))
  else (
  bif (((l8.getD 0 ([])).contains (s14 : Int)) || ((l8.getD 1 ([])).contains (s14 : Int))) then (
  M.grd (decide ((l10.length + ([(s14 : Int)]).length) * 8 ≤ 140737488355328)) <|
  M.pure (.inl (s14 + 1, l9, l10 ++ ([(s14 : Int)]))))
  else (
  M.pure (.inl (s14 + 1, l9, l10)))))
  else (
  M.pure (.inr (l9, l10, l10, l9)))
def m_nilometerlaw13_NotesFenced_b11 (l : List Int) (l16 : List Int) : Nat → M (Nat ⊕ (Unit ⊕ Unit)) := fun s15 =>
  bif decide ((s15 : Int) < (l16.length : Int)) then (
  M.grd (decide ((s15 : Int) < (l16.length : Int))) <|
  bif !(l.contains (l16.getD s15 0)) then (
  M.pure (.inr (.inl ())))
  else (
  M.pure (.inl (s15 + 1))))
  else (
  M.pure (.inr (.inr ())))
def m_nilometerlaw13_NotesFenced_b12 (l : List Int) (l16 : List Int) : Nat → M (Nat ⊕ (Unit ⊕ Unit)) := fun s15 =>
  bif decide ((s15 : Int) < (l16.length : Int)) then (
  M.grd (decide ((s15 : Int) < (l16.length : Int))) <|
  bif !(l.contains (l16.getD s15 0)) then (
  M.pure (.inr (.inl ())))
  else (
  M.pure (.inl (s15 + 1))))
  else (
  M.pure (.inr (.inr ())))
def m_nilometerlaw13_NotesFenced (numbers : List UInt8) (tries : List UInt8) : M Bool :=
  M.bind (m_nilometerkit_New numbers) fun (r1, r2) =>
  M.bind (m_nilometerkit_New tries) fun (r12, r22) =>
  M.bind (m_nilometerlaw13_Made numbers r1 r2 14) fun (r3, q1, q2) =>
  M.bind (m_nilometerlaw13_Revised numbers q1 q2 r3) fun (r4, q12, q22) =>
  M.bind (M.pure (staleR r3 r4, askedE r3 r4)) fun (l, e) =>
  bif ((e != 0) || ((l.length : Int) == 0)) then (
  M.pure false)
  else (
  M.bind (M.iter (m_nilometerlaw13_NotesFenced_b9 tries r3 r4 l) (r12, r22, 0, [])) fun x_ => match x_ with
  | (.inl (l6, s10, s11)) => (
  M.pure false)
  | (.inr (s12, s13, l7, l8)) => (
  M.bind (m_nilometerkit_Stream_Next tries s12 s13 (l.length : Int)) fun (r57, q152, q252) =>
  M.grd (decide (l.length ≤ 1000000)) <|
  M.grd (decide ((-9223372036854775808 : Int) ≤ (r57 + 1)) && decide ((r57 + 1) ≤ (9223372036854775807 : Int))) <|
  M.grd (decide ((0 : Int) ≤ r57) && decide (r57 < (r57 + 1)) && decide ((r57 + 1) ≤ (l.length : Int))) <|
  M.bind (m_notes_Fences r3 r4 (l.take (Int.toNat r57) ++ l.drop (Int.toNat (r57 + 1)))) fun (r02, r111) =>
  bif ((r111 != 0) || r02) then (
  M.pure false)
  else (
  bif decide (1 < (l8.length : Int)) then (
  M.bind (M.iter (m_nilometerlaw13_NotesFenced_b10 r3 l8) (0, [], [])) fun (l11, l12, l13, l14) =>
  M.bind (m_notes_Fences r3 r4 l14) fun (r03, r112) =>
  M.bind (m_notes_Fences r3 r4 l13) fun (r04, r113) =>
  bif ((((r112 != 0) || (r113 != 0)) || (!r03)) || (!r04)) then (
  M.pure false)
  else (
  M.bind (M.pure (staleR r3 l, askedE r3 l)) fun (l15, e2) =>
  bif ((e2 != 0) || (!(decide (l15 = l)))) then (
  M.pure false)
  else (
  M.grd (decide (1 ≤ (r4.length : Int))) <|
  M.bind (M.pure (staleR r3 (r4.take 1), askedE r3 (r4.take 1))) fun (l16, e3) =>
  bif e3 != 0 then (
  M.pure false)
  else (
  M.bind (M.iter (m_nilometerlaw13_NotesFenced_b11 l l16) 0) fun x_ => match x_ with
  | (.inl (_ : Unit)) => (
  M.pure false)
  | (.inr (_ : Unit)) => (
  M.bind (m_nilometerlaw13_awake) fun r58 =>
  M.pure r58)))))
  else (
  M.bind (M.pure (staleR r3 l, askedE r3 l)) fun (l15, e2) =>
  bif ((e2 != 0) || (!(decide (l15 = l)))) then (
  M.pure false)
  else (
  M.grd (decide (1 ≤ (r4.length : Int))) <|
  M.bind (M.pure (staleR r3 (r4.take 1), askedE r3 (r4.take 1))) fun (l16, e3) =>
  bif e3 != 0 then (
  M.pure false)
  else (
  M.bind (M.iter (m_nilometerlaw13_NotesFenced_b12 l l16) 0) fun x_ => match x_ with
  | (.inl (_ : Unit)) => (
  M.pure false)
  | (.inr (_ : Unit)) => (
  M.bind (m_nilometerlaw13_awake) fun r58 =>
  M.pure r58)))))))
theorem nilometerlaw13_NotesFenced_ok {R : List Chunk} {C_numbers : Cells} {v_numbers : Value} {C_tries : Cells} {v_tries : Value} (numbers : List UInt8) (tries : List UInt8) (hC_numbers : Reads R C_numbers) (hs_numbers : Sl C_numbers v_numbers numbers) (hC_tries : Reads R C_tries) (hs_tries : Sl C_tries v_tries tries) {r : Bool} (hM : (m_nilometerlaw13_NotesFenced numbers tries).Ends r) (w : World) (H : St w w [] R) : Ret Try.prog 6 #[v_numbers, v_tries] w fun v w' => ∃ (y0 : Bool), y0 = r ∧ v = B y0 ∧ St w w' [] R := by
 refine ret_of_W Try.func6 rfl rfl rfl ?_
 refine sQ rfl <| sA (B false) rfl <| s_nil <| sQ rfl <| sM v_numbers rfl ?_
 obtain ⟨r2z, hx1z, hM⟩ := M.e_bind hM
 refine s_call cf40 [v_numbers] rfl (nilometerkit_New_ok numbers (hC_numbers.app _) hs_numbers hx1z _ (St.give (T := []) H rfl)) ?_
 rintro vq w3z ⟨r1, r2, nb0_1, hr4z, hvq, H2_⟩
 subst hr4z
 subst vq
 try dsimp only at hM
 replace H : St w w3z [cBlk nb0_1 [v_numbers, I r1, I r2] 158] R := H.back H2_ rfl
 clear H2_
 refine sM v_tries rfl ?_
 obtain ⟨r6z, hx5z, hM⟩ := M.e_bind hM
 refine s_call cf40 [v_tries] rfl (nilometerkit_New_ok tries (hC_tries.app _) hs_tries hx5z _ (St.give (T := [cBlk nb0_1 [v_numbers, I r1, I r2] 158]) H rfl)) ?_
 rintro vq w7z ⟨r12, r22, nb0_2, hr8z, hvq, H2_⟩
 subst hr8z
 subst vq
 try dsimp only at hM
 replace H : St w w7z [cBlk nb0_2 [v_tries, I r12, I r22] 158, cBlk nb0_1 [v_numbers, I r1, I r2] 158] R := H.back H2_ rfl
 clear H2_
 refine sA (Pz nb0_1) rfl <| sA (Pz nb0_2) rfl <| s_nil <| sQ rfl <| sM (Pz nb0_1) rfl ?_
 obtain ⟨r10z, hx9z, hM⟩ := M.e_bind hM
 refine s_call cf41 [Pz nb0_1, I 14] rfl (nilometerlaw13_Made_ok numbers r1 r2 14 (hC_numbers.app _) hs_numbers hx9z _ (St.give (L := [cBlk nb0_1 [v_numbers, I r1, I r2] 158, cBlk nb0_2 [v_tries, I r12, I r22] 158]) (A := [cBlk nb0_1 [v_numbers, I r1, I r2] 158]) (T := [cBlk nb0_2 [v_tries, I r12, I r22] 158]) (H.pick [1, 0] (by decide) rfl) rfl)) ?_
 rintro vq w11z ⟨r3, q1, q2, u0_3, rr1_4, Bs2_5, hr12z, hvq, H2_, hf13z⟩
 subst hr12z
 subst vq
 try dsimp only at hM
 replace H : St w w11z [cOwn (α := Raw 2) 60 u0_3 rr1_4, cRo Bs2_5, cBlk nb0_1 [v_numbers, I q1, I q2] 158, cBlk nb0_2 [v_tries, I r12, I r22] 158] R := H.pick [1, 0] (by decide) rfl |>.back H2_ rfl
 clear H2_
 refine sA u0_3 rfl <| s_nil <| sQ rfl <| sM (Pz nb0_1) rfl <| sM u0_3 rfl ?_
 obtain ⟨r15z, hx14z, hM⟩ := M.e_bind hM
 refine s_call cf47 [Pz nb0_1, u0_3] rfl (nilometerlaw13_Revised_ok numbers q1 q2 r3 (hC_numbers.app _) hs_numbers (Reads.sup (Reads.of (k := 0) rfl ownLe) (Reads.of (k := 1) rfl roLe)) (rowSl rfl (H.get (k := 0) rfl) (roLe _ (H.get (k := 1) rfl)) hf13z) hx14z _ (St.give (L := [cBlk nb0_1 [v_numbers, I q1, I q2] 158, cOwn (α := Raw 2) 60 u0_3 rr1_4, cRo Bs2_5, cBlk nb0_2 [v_tries, I r12, I r22] 158]) (A := [cBlk nb0_1 [v_numbers, I q1, I q2] 158]) (T := [cOwn (α := Raw 2) 60 u0_3 rr1_4, cRo Bs2_5, cBlk nb0_2 [v_tries, I r12, I r22] 158]) (H.pick [2, 0, 1, 3] (by decide) rfl) rfl)) ?_
 rintro vq w16z ⟨r4, q12, q22, u0_6, hr17z, hvq, H2_⟩
 subst hr17z
 subst vq
 try dsimp only at hM
 replace H : St w w16z [cOwn (α := Int) 3 u0_6 r4, cBlk nb0_1 [v_numbers, I q12, I q22] 158, cOwn (α := Raw 2) 60 u0_3 rr1_4, cRo Bs2_5, cBlk nb0_2 [v_tries, I r12, I r22] 158] R := H.pick [2, 0, 1, 3] (by decide) rfl |>.back H2_ rfl
 clear H2_
 refine sA u0_6 rfl <| s_nil <| sQ rfl <| sM u0_3 rfl <| sM u0_6 rfl ?_
 obtain ⟨⟨l, e⟩, hx21z, hM⟩ := M.e_bind hM
 obtain ⟨hq22z, hq23z⟩ := Prod.mk.inj (M.e_pure hx21z)
 try dsimp only at hM
 refine s_call cf32 [u0_3, u0_6] rfl (by have hc_ := (Stale_any _ ((rowSl rfl (H.get (k := 2) rfl) (roLe _ (H.get (k := 3) rfl)) hf13z).mono (Cells.sup_le (ownLe _ (H.get (k := 2) rfl)) (roLe _ (H.get (k := 3) rfl)))) ((ownSl (H.get (k := 0) rfl)).mono (ownLe _ (H.get (k := 0) rfl)))); rw [hq22z, hq23z] at hc_; exact hc_) ?_
 rintro _ w18z ⟨u19z, rfl, hs20z, hx_⟩
 obtain ⟨Bs_7, H, hs20z⟩ := H.fresh hx_ hs20z
 clear hx_
 have hl_hs20z := hs20z.len_le
 refine sM (.tuple #[u19z, I e]) rfl <| sX [u19z, I e] u19z rfl rfl <| sX [u19z, I e] (I e) rfl rfl <| sA u19z rfl <| sA (I e) rfl <| s_nil <| W.seq <| sQ rfl <| sM (I e) rfl <| sC e 0 (e != 0) rfl rfl rfl <| sM (B (e != 0)) rfl ?_
 refine g_val (!(e != 0)) (gy_f rfl) (fun hg => x_mv (v := u19z) rfl) <| g_val (!(e != 0)) (gy_f rfl) (fun hg => x_lenS T34.und (gd_of (c := !(e != 0)) hg (u19z)) hs20z) <| g_val (!(e != 0)) (gy_f rfl) (fun hg => x_cmp (kd := .i64) (a := (l.length : Int)) (b := 0) (r := (l.length : Int) == 0) (gd_of (c := !(e != 0)) hg (I (l.length : Int))) rfl rfl) <| s_val (x_por (b := e != 0) (r := (l.length : Int) == 0) rfl rfl (fun hb => gd_of (c := !(e != 0)) (by first | exact hb | (rw [hb]; rfl) | simp_all) (B ((l.length : Int) == 0)))) <| s_nil ?_
 refine W.cond ((e != 0) || ((l.length : Int) == 0)) rfl (fun c25z => ?_) (fun c25z => ?_)
 ·replace hM := M.e_t hM c25z
  refine sQ rfl <| sA (B false) rfl <| s_nil ?_
  refine W.ret ?_
  have hr_ := M.e_pure hM
  exact ⟨_, resE_tmp rfl, ⟨false, hr_, rfl, (H.pick [] (by decide) rfl)⟩⟩
 replace hM := M.e_f hM c25z
 refine W.skip <| sQ rfl <| sA (.slice none 0 0) rfl <| s_nil <| W.seq <| sQ rfl <| sM (I 0) rfl <| s_nil <| W.block ?_
 obtain ⟨Bs_19, H⟩ := H.emptyE
 replace H : St w w18z [cOwn (α := Raw 0) 34 (.slice none 0 0) ([]), cRo Bs_19, cRo Bs_7, cOwn (α := Int) 3 u0_6 r4, cBlk nb0_1 [v_numbers, I q12, I q22] 158, cOwn (α := Raw 2) 60 u0_3 rr1_4, cRo Bs2_5, cBlk nb0_2 [v_tries, I r12, I r22] 158] R := H.nilOwn (α := Raw 0) 34
 have hr26z : RepR (α := List Int) (n := 0) Bs_19.cells [] [] := .nil
 obtain ⟨ex27z, hi28z, hk29z⟩ := M.e_bind hM
 obtain ⟨m0_, hi28z⟩ := M.e_iter hi28z
 refine W.loop (fun m σ W => ∃ (s7 : Int) (s8 : Int) (s9 : Nat) (l5 : List (List Int)) (v_l5 : Value) (rw_l5 : List (Raw 0)) (B_l5 : Base) (ρ : Env), σ = upds ρ [(6, Pz nb0_2), (7, u0_3), (8, u0_6), (9, u19z), (11, v_l5), (55, I (s9 : Int))] ∧ M.iterN (m_nilometerlaw13_NotesFenced_b9 tries r3 r4 l) m (s7, s8, s9, l5) = some ex27z ∧ St w W [cOwn (α := Raw 0) 34 v_l5 rw_l5, cRo B_l5, cRo Bs_7, cOwn (α := Int) 3 u0_6 r4, cBlk nb0_1 [v_numbers, I q12, I q22] 158, cOwn (α := Raw 2) 60 u0_3 rr1_4, cRo Bs2_5, cBlk nb0_2 [v_tries, I s7, I s8] 158] R ∧ RepR (α := List Int) B_l5.cells rw_l5 l5) ?_ ?_
 ·exact ⟨_, r12, r22, 0, [], (.slice none 0 0), [], Bs_19, _, upds_of _ _ ⟨rfl, rfl, rfl, rfl, rfl, rfl, trivial⟩, hi28z, H, hr26z⟩
 rintro m32z σ w30z ⟨s7, s8, s9, l5, v_l5, rw_l5, B_l5, ρ, rfl, hI31z, H, hr_l5⟩
 obtain ⟨m33z, lt34z, x35z, hM, hN36z⟩ := M.e_iterN hI31z
 simp only [m_nilometerlaw13_NotesFenced_b9] at hM
 clear hI31z
 refine sQ rfl <| sC (s9 : Int) 6 (decide ((s9 : Int) < 6)) rfl rfl rfl <| s_nil <| W.seq ?_
 refine W.cond (decide ((s9 : Int) < 6)) rfl (fun c37z => ?_) (fun c37z => ?_)
 ·replace hM := M.e_t hM c37z
  simp only [qz1, qz2, qz3, qz4, qz5, qz6, ne_eq, qz7] at c37z
  refine W.skip <| W.seq <| W.block <| sQ rfl ?_
  refine t_alloc (cs := [.slice none 0 0]) H Al34 rfl ?_
  intro b_8 w38z H
  refine s_nil <| W.seq <| sQ rfl <| sM u0_3 rfl ?_
  have hl39z := ((rowSl rfl (H.get (k := 6) rfl) (roLe _ (H.get (k := 7) rfl)) hf13z)).len_le
  refine s_val (x_lenS T22.und rfl (rowSl rfl (H.get (k := 6) rfl) (roLe _ (H.get (k := 7) rfl)) hf13z)) <| sM (I 0) rfl <| s_nil <| W.block ?_
  replace H : St w w38z [cOwn (α := Int) 3 (.slice none 0 0) ([]), cBlk b_8 [.slice none 0 0] 34, cOwn (α := Raw 0) 34 v_l5 rw_l5, cRo B_l5, cRo Bs_7, cOwn (α := Int) 3 u0_6 r4, cBlk nb0_1 [v_numbers, I q12, I q22] 158, cOwn (α := Raw 2) 60 u0_3 rr1_4, cRo Bs2_5, cBlk nb0_2 [v_tries, I s7, I s8] 158] R := H.nilOwn (α := Int) 3
  obtain ⟨ex40z, hi41z, hk42z⟩ := M.e_bind hM
  obtain ⟨m0_, hi41z⟩ := M.e_iter hi41z
  refine W.loop (fun m σ W => ∃ (s : Int) (s2 : Int) (s3 : Nat) (l2 : List Int) (v_l2 : Value) (ρ : Env), σ = upds ρ [(6, Pz nb0_2), (7, u0_3), (8, u0_6), (9, u19z), (11, v_l5), (12, Pz b_8), (55, I (s9 : Int)), (58, I (r3.length : Int)), (59, I (s3 : Int))] ∧ M.iterN (m_nilometerlaw13_NotesFenced_b6 tries r3 r4) m (s, s2, s3, l2) = some ex40z ∧ St w W [cOwn (α := Int) 3 v_l2 l2, cBlk b_8 [v_l2] 34, cOwn (α := Raw 0) 34 v_l5 rw_l5, cRo B_l5, cRo Bs_7, cOwn (α := Int) 3 u0_6 r4, cBlk nb0_1 [v_numbers, I q12, I q22] 158, cOwn (α := Raw 2) 60 u0_3 rr1_4, cRo Bs2_5, cBlk nb0_2 [v_tries, I s, I s2] 158] R) ?_ ?_
  ·exact ⟨_, s7, s8, 0, [], (.slice none 0 0), _, upds_of _ _ ⟨rfl, rfl, rfl, rfl, rfl, rfl, rfl, rfl, rfl, trivial⟩, hi41z, H⟩
  rintro m45z σ w43z ⟨s, s2, s3, l2, v_l2, ρ, rfl, hI44z, H⟩
  obtain ⟨m46z, lt47z, x48z, hM, hN49z⟩ := M.e_iterN hI44z
  simp only [m_nilometerlaw13_NotesFenced_b6] at hM
  clear hI44z
  refine sQ rfl <| sC (s3 : Int) (r3.length : Int) (decide ((s3 : Int) < (r3.length : Int))) rfl rfl rfl <| s_nil <| W.seq ?_
  refine W.cond (decide ((s3 : Int) < (r3.length : Int))) rfl (fun c50z => ?_) (fun c50z => ?_)
  ·replace hM := M.e_t hM c50z
   simp only [qz1, qz2, qz3, qz4, qz5, qz6, ne_eq, qz7] at c50z
   refine W.skip <| W.seq <| W.block <| sQ rfl <| sM (I (s3 : Int)) rfl <| sA (I (s3 : Int)) rfl <| s_nil <| sQ rfl <| sM u0_6 rfl <| sM (I (s3 : Int)) rfl ?_
   refine s_call cf45 [u0_6, I (s3 : Int)] rfl (contains_int (s3 : Int) _ ((ownSl (H.get (k := 5) rfl)).mono (ownLe _ (H.get (k := 5) rfl)))) ?_
   rintro _ w51z ⟨rfl, hx_⟩
   replace H : St w w51z [cOwn (α := Int) 3 v_l2 l2, cBlk b_8 [v_l2] 34, cOwn (α := Raw 0) 34 v_l5 rw_l5, cRo B_l5, cRo Bs_7, cOwn (α := Int) 3 u0_6 r4, cBlk nb0_1 [v_numbers, I q12, I q22] 158, cOwn (α := Raw 2) 60 u0_3 rr1_4, cRo Bs2_5, cBlk nb0_2 [v_tries, I s, I s2] 158] R := H.ext hx_
   clear hx_
   refine sM (B (r4.contains (s3 : Int))) rfl <| g_val (!(r4.contains (s3 : Int))) (gy_f rfl) (fun hg => x_mv (v := Pz nb0_2) rfl) ?_
   refine g_splitV (!(r4.contains (s3 : Int))) (I 0) (gy_f rfl) (fun hg_ => ?_) (fun hg_ => ?_)
   ·replace hM := M.e_t hM hg_
    obtain ⟨r53z, hx52z, hM⟩ := M.e_bind hM
    refine s_call cf44 [Pz nb0_2, I 5] (lst2 (gd_of (c := !(r4.contains (s3 : Int))) hg_ (Pz nb0_2)) rfl) (nilometerkit_Stream_Next_ok tries s s2 5 (hC_tries.app _) hs_tries hx52z _ (St.give (L := [cBlk nb0_2 [v_tries, I s, I s2] 158, cOwn (α := Int) 3 v_l2 l2, cBlk b_8 [v_l2] 34, cOwn (α := Raw 0) 34 v_l5 rw_l5, cRo B_l5, cRo Bs_7, cOwn (α := Int) 3 u0_6 r4, cBlk nb0_1 [v_numbers, I q12, I q22] 158, cOwn (α := Raw 2) 60 u0_3 rr1_4, cRo Bs2_5]) (A := [cBlk nb0_2 [v_tries, I s, I s2] 158]) (T := [cOwn (α := Int) 3 v_l2 l2, cBlk b_8 [v_l2] 34, cOwn (α := Raw 0) 34 v_l5 rw_l5, cRo B_l5, cRo Bs_7, cOwn (α := Int) 3 u0_6 r4, cBlk nb0_1 [v_numbers, I q12, I q22] 158, cOwn (α := Raw 2) 60 u0_3 rr1_4, cRo Bs2_5]) (H.pick [9, 0, 1, 2, 3, 4, 5, 6, 7, 8] (by decide) rfl) rfl)) ?_
    rintro vq w54z ⟨r116, q1106, q2106, hr55z, hvq, H2_⟩
    subst hr55z
    subst vq
    try dsimp only at hM
    replace H : St w w54z [cBlk nb0_2 [v_tries, I q1106, I q2106] 158, cOwn (α := Int) 3 v_l2 l2, cBlk b_8 [v_l2] 34, cOwn (α := Raw 0) 34 v_l5 rw_l5, cRo B_l5, cRo Bs_7, cOwn (α := Int) 3 u0_6 r4, cBlk nb0_1 [v_numbers, I q12, I q22] 158, cOwn (α := Raw 2) 60 u0_3 rr1_4, cRo Bs2_5] R := H.pick [9, 0, 1, 2, 3, 4, 5, 6, 7, 8] (by decide) rfl |>.back H2_ rfl
    clear H2_
    refine g_val (!(r4.contains (s3 : Int))) (gy_f rfl) (fun hg => x_cmp (kd := .i64) (a := r116) (b := 0) (r := r116 == 0) rfl rfl rfl) <| s_val (x_por (b := r4.contains (s3 : Int)) (r := r116 == 0) rfl rfl (fun hb => gd_of (c := !(r4.contains (s3 : Int))) (by first | exact hb | (rw [hb]; rfl) | simp_all) (B (r116 == 0)))) <| sM (B ((r4.contains (s3 : Int)) || (r116 == 0))) rfl <| g_val (!((r4.contains (s3 : Int)) || (r116 == 0))) (gy_f rfl) (fun hg => x_mv (v := Pz nb0_2) rfl) ?_
    refine g_splitV (!((r4.contains (s3 : Int)) || (r116 == 0))) (I 0) (gy_f rfl) (fun hg_ => ?_) (fun hg_ => ?_)
    ·replace hM := M.e_t hM hg_
     obtain ⟨r57z, hx56z, hM⟩ := M.e_bind hM
     refine s_call cf44 [Pz nb0_2, I 6] (lst2 (gd_of (c := !((r4.contains (s3 : Int)) || (r116 == 0))) hg_ (Pz nb0_2)) rfl) (nilometerkit_Stream_Next_ok tries q1106 q2106 6 (hC_tries.app _) hs_tries hx56z _ (St.give (T := [cOwn (α := Int) 3 v_l2 l2, cBlk b_8 [v_l2] 34, cOwn (α := Raw 0) 34 v_l5 rw_l5, cRo B_l5, cRo Bs_7, cOwn (α := Int) 3 u0_6 r4, cBlk nb0_1 [v_numbers, I q12, I q22] 158, cOwn (α := Raw 2) 60 u0_3 rr1_4, cRo Bs2_5]) H rfl)) ?_
     rintro vq w58z ⟨r117, q1107, q2107, hr59z, hvq, H2_⟩
     subst hr59z
     subst vq
     try dsimp only at hM
     replace H : St w w58z [cBlk nb0_2 [v_tries, I q1107, I q2107] 158, cOwn (α := Int) 3 v_l2 l2, cBlk b_8 [v_l2] 34, cOwn (α := Raw 0) 34 v_l5 rw_l5, cRo B_l5, cRo Bs_7, cOwn (α := Int) 3 u0_6 r4, cBlk nb0_1 [v_numbers, I q12, I q22] 158, cOwn (α := Raw 2) 60 u0_3 rr1_4, cRo Bs2_5] R := H.back H2_ rfl
     clear H2_
     refine g_val (!((r4.contains (s3 : Int)) || (r116 == 0))) (gy_f rfl) (fun hg => x_cmp (kd := .i64) (a := r117) (b := 0) (r := decide (0 < r117)) rfl rfl rfl) <| g_val (!((r4.contains (s3 : Int)) || (r116 == 0))) (gy_f rfl) (fun hg => x_mv (v := B (decide (0 < r117))) (gd_of (c := !((r4.contains (s3 : Int)) || (r116 == 0))) hg (B (decide (0 < r117))))) <| g_val ((!((r4.contains (s3 : Int)) || (r116 == 0))) && (decide (0 < r117))) (gy_gt rfl rfl) (fun hg => x_mv (v := u0_3) rfl) <| g_val ((!((r4.contains (s3 : Int)) || (r116 == 0))) && (decide (0 < r117))) (gy_gt rfl rfl) (fun hg => x_mv (v := I (s3 : Int)) rfl) ?_
     obtain ⟨sd60z, hM⟩ := M.e_grd hM
     replace sd60z := M.imp_of sd60z
     simp only [Bool.and_eq_true, decide_eq_true_eq] at sd60z
     refine g_val ((!((r4.contains (s3 : Int)) || (r116 == 0))) && (decide (0 < r117))) (gy_gt rfl rfl) (fun hg => x_ix (a := u0_3) (b := I (s3 : Int)) (v := vat u0_3 3 (Int.toNat (s3 : Int))) (gd_of (c := ((!((r4.contains (s3 : Int)) || (r116 == 0))) && (decide (0 < r117)))) hg (u0_3)) (gd_of (c := ((!((r4.contains (s3 : Int)) || (r116 == 0))) && (decide (0 < r117)))) hg (I (s3 : Int))) (Sl.ix (α := Work) T22.und T22.size (rowSl rfl (H.get (k := 8) rfl) (roLe _ (H.get (k := 9) rfl)) hf13z) (by have h1_ := sd60z.resolve_left (by rw [hg]; decide); first | omega | (have hx_ := hg; simp at hx_; omega)) (by have h1_ := sd60z.resolve_left (by rw [hg]; decide); first | omega | (have hx_ := hg; simp at hx_; omega)))) <| g_val ((!((r4.contains (s3 : Int)) || (r116 == 0))) && (decide (0 < r117))) (gy_gt rfl rfl) (fun hg => x_fa (a := vat u0_3 3 (Int.toNat (s3 : Int))) (v := fat (vat u0_3 3 (Int.toNat (s3 : Int))) 0) (gd_of (c := ((!((r4.contains (s3 : Int)) || (r116 == 0))) && (decide (0 < r117)))) hg (vat u0_3 3 (Int.toNat (s3 : Int)))) (fa_pl Fd60_0 Sz34 (Sl.pl (i := (s3 : Int)) (rowSl rfl (H.get (k := 8) rfl) (roLe _ (H.get (k := 9) rfl)) hf13z) (by have h1_ := sd60z.resolve_left (by rw [hg]; decide); first | omega | (have hx_ := hg; simp at hx_; omega)) (by have h1_ := sd60z.resolve_left (by rw [hg]; decide); first | omega | (have hx_ := hg; simp at hx_; omega))))) ?_
     obtain ⟨u61z, ha_u61z, hs62z⟩ := gd_ex (c := ((!((r4.contains (s3 : Int)) || (r116 == 0))) && (decide (0 < r117)))) fun hg => Work_at0 (rowSl rfl (H.get (k := 8) rfl) (roLe _ (H.get (k := 9) rfl)) hf13z) (i := (s3 : Int)) (by have h1_ := sd60z.resolve_left (by rw [hg]; decide); first | omega | (have hx_ := hg; simp at hx_; omega)) (by have h1_ := sd60z.resolve_left (by rw [hg]; decide); first | omega | (have hx_ := hg; simp at hx_; omega))
     replace hs62z : ((!((r4.contains (s3 : Int)) || (r116 == 0))) && (decide (0 < r117))) = true → Sl _ u61z (r3.getD s3 default).of := hs62z
     refine g_val ((!((r4.contains (s3 : Int)) || (r116 == 0))) && (decide (0 < r117))) (gy_gt rfl rfl) (fun hg => x_ld (p := fat (vat u0_3 3 (Int.toNat (s3 : Int))) 0) (v := u61z) (gd_of (c := ((!((r4.contains (s3 : Int)) || (r116 == 0))) && (decide (0 < r117)))) hg (fat (vat u0_3 3 (Int.toNat (s3 : Int))) 0)) (ld_sc Sc34 (At.mono (ha_u61z hg) (Cells.sup_le (ownLe _ (H.get (k := 8) rfl)) (roLe _ (H.get (k := 9) rfl)))))) <| g_val ((!((r4.contains (s3 : Int)) || (r116 == 0))) && (decide (0 < r117))) (gy_gt rfl rfl) (fun hg => x_mf (fs := []) (cs := [Pz b_8]) rfl rfl) ?_
     obtain ⟨r7, hx63z, hM⟩ := M.e_bind hM
     refine t_gcall ((!((r4.contains (s3 : Int)) || (r116 == 0))) && (decide (0 < r117))) (gy_gt rfl rfl) cf48 (B r7) (fun _ => [u61z, .func (.func 49) #[] #[Pz b_8]]) (fun hg => lst2 (gd_of (c := ((!((r4.contains (s3 : Int)) || (r116 == 0))) && (decide (0 < r117)))) hg (u61z)) (gd_of (c := ((!((r4.contains (s3 : Int)) || (r116 == 0))) && (decide (0 < r117)))) hg (.func (.func 49) #[] #[Pz b_8]))) H (fun hg => (slices_ContainsFunc_int_ok ((r3.getD s3 default).of) (fun xqz => m_nilometerlaw13_NotesFenced_1 xqz l2) (Reads.sup (Reads.of (k := 8) rfl ownLe) (Reads.of (k := 9) rfl roLe)) (hs62z hg) ⟨49, [Pz b_8], rfl, cf49, fun wqz Lqz Cqz vqz xqz bqz hsqz hCqz hAqz hpqz => by obtain rfl := Arg.int hAqz; exact (nilometerlaw13_NotesFenced_1_ok xqz l2 (Reads.app (Reads.of (k := 1) rfl ownLe) _) (ownSl (H.get (k := 1) rfl)) (Has.app (Has.here (k := 2) rfl) _) hpqz wqz (St.refl hsqz)).mono fun vqz wqz ⟨yqz, hrqz, hvqz, Hqz⟩ => by subst hrqz; exact ⟨hvqz, Hqz⟩⟩ (M.e_opt hx63z hg) _ (H.give (A := []) rfl)).mono fun v_ w_ ⟨y_, hr_, hv_, H_⟩ => by subst hr_; exact ⟨hv_, H.via H_⟩) ?_
     intro w64z H
     refine g_val (!((r4.contains (s3 : Int)) || (r116 == 0))) (gy_f rfl) (fun hg => x_pand (b := decide (0 < r117)) (r := r7) (gd_of (c := !((r4.contains (s3 : Int)) || (r116 == 0))) hg (B (decide (0 < r117)))) (fun hb => gd_of (c := ((!((r4.contains (s3 : Int)) || (r116 == 0))) && (decide (0 < r117)))) (by first | exact hb | (rw [hb]; rfl) | simp_all) (B r7)) rfl) <| s_val (x_por (b := ((r4.contains (s3 : Int)) || (r116 == 0))) (r := ((decide (0 < r117)) && r7)) rfl rfl (fun hb => gd_of (c := !((r4.contains (s3 : Int)) || (r116 == 0))) (by first | exact hb | (rw [hb]; rfl) | simp_all) (B ((decide (0 < r117)) && r7)))) <| s_nil ?_
     refine W.cond (((r4.contains (s3 : Int)) || (r116 == 0)) || ((decide (0 < r117)) && r7)) rfl (fun c65z => ?_) (fun c65z => ?_)
     ·replace hM := M.e_t hM c65z
      refine W.region rfl <| s_val (x_ld (p := Pz b_8) (v := v_l2) rfl (ldb_sc Sc34 (H.blk (k := 2) rfl) rfl)) <| sM (I (s3 : Int)) rfl ?_
      refine t_bs (α := Int) T34 [I (s3 : Int)] [(s3 : Int)] H rfl (.cons rfl (Flat.rep_enc _ (s3 : Int)) <| .nil) rfl rfl rfl ?_
      intro v66z w67z H
      obtain ⟨sd68z, hM⟩ := M.e_gd hM
      refine t_app (α := Int) (k := 2) (l := l2) (l2 := [(s3 : Int)]) (l' := l2 ++ ([(s3 : Int)])) (vy := v66z) T34 rfl H rfl rfl rfl (ownSl (H.get (k := 0) rfl)) (ownLe _ (H.get (k := 0) rfl)) (rfl) (by first | omega | (simp only [List.length_nil] at *; omega)) ?_
      intro v69z w70z H
      replace H : St w w70z [cOwn (α := Int) 3 v66z ([(s3 : Int)]), cBlk nb0_2 [v_tries, I q1107, I q2107] 158, cOwn (α := Int) 3 v69z (l2 ++ ([(s3 : Int)])), cBlk b_8 [v_l2] 34, cOwn (α := Raw 0) 34 v_l5 rw_l5, cRo B_l5, cRo Bs_7, cOwn (α := Int) 3 u0_6 r4, cBlk nb0_1 [v_numbers, I q12, I q22] 158, cOwn (α := Raw 2) 60 u0_3 rr1_4, cRo Bs2_5] R := H
      refine t_st (k := 3) (b := b_8) (off := 0) (cs := [v_l2]) (vs := [v69z]) (cs' := [v69z]) (v := v69z) (L' := [cOwn (α := Int) 3 v66z ([(s3 : Int)]), cBlk nb0_2 [v_tries, I q1107, I q2107] 158, cOwn (α := Int) 3 v69z (l2 ++ ([(s3 : Int)])), cBlk b_8 [v69z] 34, cOwn (α := Raw 0) 34 v_l5 rw_l5, cRo B_l5, cRo Bs_7, cOwn (α := Int) 3 u0_6 r4, cBlk nb0_1 [v_numbers, I q12, I q22] 158, cOwn (α := Raw 2) 60 u0_3 rr1_4, cRo Bs2_5]) H rfl rfl rfl Sz34 (Sl.cells (ownSl (H.get (k := 2) rfl))) rfl rfl (by simp only [List.all_cons, List.all_nil, Bool.true_and, Bool.and_true, Sl.oc (ownSl (H.get (k := 2) rfl))]; try rfl) rfl rfl ?_
      intro w71z H
      refine s_nil <| W.region rfl <| sR (s3 : Int) 1 ((s3 : Int) + 1) rfl rfl rfl (by omega) <| sM (I ((s3 : Int) + 1)) rfl <| s_nil ?_
      exact ⟨m46z, lt47z, q1107, q2107, s3 + 1, l2 ++ ([(s3 : Int)]), v69z, _, upds_of _ _ ⟨rfl, rfl, rfl, rfl, rfl, rfl, rfl, rfl, rfl, trivial⟩, M.e_inl hM hN49z, (H.pick [2, 3, 4, 5, 6, 7, 8, 9, 10, 1] (by decide) rfl)⟩
     replace hM := M.e_f hM c65z
     refine W.skip <| W.region rfl <| sR (s3 : Int) 1 ((s3 : Int) + 1) rfl rfl rfl (by omega) <| sM (I ((s3 : Int) + 1)) rfl <| s_nil ?_
     exact ⟨m46z, lt47z, q1107, q2107, s3 + 1, l2, v_l2, _, upds_of _ _ ⟨rfl, rfl, rfl, rfl, rfl, rfl, rfl, rfl, rfl, trivial⟩, M.e_inl hM hN49z, (H.pick [1, 2, 3, 4, 5, 6, 7, 8, 9, 0] (by decide) rfl)⟩
    replace hM := M.e_f hM hg_
    refine g_val (!((r4.contains (s3 : Int)) || (r116 == 0))) (gy_f rfl) (fun hg => x_cmp (kd := .i64) (a := 0) (b := 0) (r := decide ((0 : Int) < 0)) (gd_of (c := !((r4.contains (s3 : Int)) || (r116 == 0))) hg (I 0)) rfl rfl) <| g_val (!((r4.contains (s3 : Int)) || (r116 == 0))) (gy_f rfl) (fun hg => x_mv (v := B (decide ((0 : Int) < 0))) (gd_of (c := !((r4.contains (s3 : Int)) || (r116 == 0))) hg (B (decide ((0 : Int) < 0))))) <| g_val ((!((r4.contains (s3 : Int)) || (r116 == 0))) && (decide ((0 : Int) < 0))) (gy_gt rfl rfl) (fun hg => x_mv (v := u0_3) rfl) <| g_val ((!((r4.contains (s3 : Int)) || (r116 == 0))) && (decide ((0 : Int) < 0))) (gy_gt rfl rfl) (fun hg => x_mv (v := I (s3 : Int)) rfl) ?_
    obtain ⟨sd72z, hM⟩ := M.e_grd hM
    replace sd72z := M.imp_of sd72z
    simp only [Bool.and_eq_true, decide_eq_true_eq] at sd72z
    refine g_val ((!((r4.contains (s3 : Int)) || (r116 == 0))) && (decide ((0 : Int) < 0))) (gy_gt rfl rfl) (fun hg => x_ix (a := u0_3) (b := I (s3 : Int)) (v := vat u0_3 3 (Int.toNat (s3 : Int))) (gd_of (c := ((!((r4.contains (s3 : Int)) || (r116 == 0))) && (decide ((0 : Int) < 0)))) hg (u0_3)) (gd_of (c := ((!((r4.contains (s3 : Int)) || (r116 == 0))) && (decide ((0 : Int) < 0)))) hg (I (s3 : Int))) (Sl.ix (α := Work) T22.und T22.size (rowSl rfl (H.get (k := 8) rfl) (roLe _ (H.get (k := 9) rfl)) hf13z) (by have h1_ := sd72z.resolve_left (by rw [hg]; decide); first | omega | (have hx_ := hg; simp at hx_; omega)) (by have h1_ := sd72z.resolve_left (by rw [hg]; decide); first | omega | (have hx_ := hg; simp at hx_; omega)))) <| g_val ((!((r4.contains (s3 : Int)) || (r116 == 0))) && (decide ((0 : Int) < 0))) (gy_gt rfl rfl) (fun hg => x_fa (a := vat u0_3 3 (Int.toNat (s3 : Int))) (v := fat (vat u0_3 3 (Int.toNat (s3 : Int))) 0) (gd_of (c := ((!((r4.contains (s3 : Int)) || (r116 == 0))) && (decide ((0 : Int) < 0)))) hg (vat u0_3 3 (Int.toNat (s3 : Int)))) (fa_pl Fd60_0 Sz34 (Sl.pl (i := (s3 : Int)) (rowSl rfl (H.get (k := 8) rfl) (roLe _ (H.get (k := 9) rfl)) hf13z) (by have h1_ := sd72z.resolve_left (by rw [hg]; decide); first | omega | (have hx_ := hg; simp at hx_; omega)) (by have h1_ := sd72z.resolve_left (by rw [hg]; decide); first | omega | (have hx_ := hg; simp at hx_; omega))))) ?_
    obtain ⟨u73z, ha_u73z, hs74z⟩ := gd_ex (c := ((!((r4.contains (s3 : Int)) || (r116 == 0))) && (decide ((0 : Int) < 0)))) fun hg => Work_at0 (rowSl rfl (H.get (k := 8) rfl) (roLe _ (H.get (k := 9) rfl)) hf13z) (i := (s3 : Int)) (by have h1_ := sd72z.resolve_left (by rw [hg]; decide); first | omega | (have hx_ := hg; simp at hx_; omega)) (by have h1_ := sd72z.resolve_left (by rw [hg]; decide); first | omega | (have hx_ := hg; simp at hx_; omega))
    replace hs74z : ((!((r4.contains (s3 : Int)) || (r116 == 0))) && (decide ((0 : Int) < 0))) = true → Sl _ u73z (r3.getD s3 default).of := hs74z
    refine g_val ((!((r4.contains (s3 : Int)) || (r116 == 0))) && (decide ((0 : Int) < 0))) (gy_gt rfl rfl) (fun hg => x_ld (p := fat (vat u0_3 3 (Int.toNat (s3 : Int))) 0) (v := u73z) (gd_of (c := ((!((r4.contains (s3 : Int)) || (r116 == 0))) && (decide ((0 : Int) < 0)))) hg (fat (vat u0_3 3 (Int.toNat (s3 : Int))) 0)) (ld_sc Sc34 (At.mono (ha_u73z hg) (Cells.sup_le (ownLe _ (H.get (k := 8) rfl)) (roLe _ (H.get (k := 9) rfl)))))) <| g_val ((!((r4.contains (s3 : Int)) || (r116 == 0))) && (decide ((0 : Int) < 0))) (gy_gt rfl rfl) (fun hg => x_mf (fs := []) (cs := [Pz b_8]) rfl rfl) ?_
    obtain ⟨r7, hx75z, hM⟩ := M.e_bind hM
    refine t_gcall ((!((r4.contains (s3 : Int)) || (r116 == 0))) && (decide ((0 : Int) < 0))) (gy_gt rfl rfl) cf48 (B r7) (fun _ => [u73z, .func (.func 49) #[] #[Pz b_8]]) (fun hg => lst2 (gd_of (c := ((!((r4.contains (s3 : Int)) || (r116 == 0))) && (decide ((0 : Int) < 0)))) hg (u73z)) (gd_of (c := ((!((r4.contains (s3 : Int)) || (r116 == 0))) && (decide ((0 : Int) < 0)))) hg (.func (.func 49) #[] #[Pz b_8]))) H (fun hg => (slices_ContainsFunc_int_ok ((r3.getD s3 default).of) (fun xqz => m_nilometerlaw13_NotesFenced_1 xqz l2) (Reads.sup (Reads.of (k := 8) rfl ownLe) (Reads.of (k := 9) rfl roLe)) (hs74z hg) ⟨49, [Pz b_8], rfl, cf49, fun wqz Lqz Cqz vqz xqz bqz hsqz hCqz hAqz hpqz => by obtain rfl := Arg.int hAqz; exact (nilometerlaw13_NotesFenced_1_ok xqz l2 (Reads.app (Reads.of (k := 1) rfl ownLe) _) (ownSl (H.get (k := 1) rfl)) (Has.app (Has.here (k := 2) rfl) _) hpqz wqz (St.refl hsqz)).mono fun vqz wqz ⟨yqz, hrqz, hvqz, Hqz⟩ => by subst hrqz; exact ⟨hvqz, Hqz⟩⟩ (M.e_opt hx75z hg) _ (H.give (A := []) rfl)).mono fun v_ w_ ⟨y_, hr_, hv_, H_⟩ => by subst hr_; exact ⟨hv_, H.via H_⟩) ?_
    intro w76z H
    refine g_val (!((r4.contains (s3 : Int)) || (r116 == 0))) (gy_f rfl) (fun hg => x_pand (b := decide ((0 : Int) < 0)) (r := r7) (gd_of (c := !((r4.contains (s3 : Int)) || (r116 == 0))) hg (B (decide ((0 : Int) < 0)))) (fun hb => gd_of (c := ((!((r4.contains (s3 : Int)) || (r116 == 0))) && (decide ((0 : Int) < 0)))) (by first | exact hb | (rw [hb]; rfl) | simp_all) (B r7)) rfl) <| s_val (x_por (b := ((r4.contains (s3 : Int)) || (r116 == 0))) (r := ((decide ((0 : Int) < 0)) && r7)) rfl rfl (fun hb => gd_of (c := !((r4.contains (s3 : Int)) || (r116 == 0))) (by first | exact hb | (rw [hb]; rfl) | simp_all) (B ((decide ((0 : Int) < 0)) && r7)))) <| s_nil ?_
    refine W.cond (((r4.contains (s3 : Int)) || (r116 == 0)) || ((decide ((0 : Int) < 0)) && r7)) rfl (fun c77z => ?_) (fun c77z => ?_)
    ·replace hM := M.e_t hM c77z
     refine W.region rfl <| s_val (x_ld (p := Pz b_8) (v := v_l2) rfl (ldb_sc Sc34 (H.blk (k := 2) rfl) rfl)) <| sM (I (s3 : Int)) rfl ?_
     refine t_bs (α := Int) T34 [I (s3 : Int)] [(s3 : Int)] H rfl (.cons rfl (Flat.rep_enc _ (s3 : Int)) <| .nil) rfl rfl rfl ?_
     intro v78z w79z H
     obtain ⟨sd80z, hM⟩ := M.e_gd hM
     refine t_app (α := Int) (k := 2) (l := l2) (l2 := [(s3 : Int)]) (l' := l2 ++ ([(s3 : Int)])) (vy := v78z) T34 rfl H rfl rfl rfl (ownSl (H.get (k := 0) rfl)) (ownLe _ (H.get (k := 0) rfl)) (rfl) (by first | omega | (simp only [List.length_nil] at *; omega)) ?_
     intro v81z w82z H
     replace H : St w w82z [cOwn (α := Int) 3 v78z ([(s3 : Int)]), cBlk nb0_2 [v_tries, I q1106, I q2106] 158, cOwn (α := Int) 3 v81z (l2 ++ ([(s3 : Int)])), cBlk b_8 [v_l2] 34, cOwn (α := Raw 0) 34 v_l5 rw_l5, cRo B_l5, cRo Bs_7, cOwn (α := Int) 3 u0_6 r4, cBlk nb0_1 [v_numbers, I q12, I q22] 158, cOwn (α := Raw 2) 60 u0_3 rr1_4, cRo Bs2_5] R := H
     refine t_st (k := 3) (b := b_8) (off := 0) (cs := [v_l2]) (vs := [v81z]) (cs' := [v81z]) (v := v81z) (L' := [cOwn (α := Int) 3 v78z ([(s3 : Int)]), cBlk nb0_2 [v_tries, I q1106, I q2106] 158, cOwn (α := Int) 3 v81z (l2 ++ ([(s3 : Int)])), cBlk b_8 [v81z] 34, cOwn (α := Raw 0) 34 v_l5 rw_l5, cRo B_l5, cRo Bs_7, cOwn (α := Int) 3 u0_6 r4, cBlk nb0_1 [v_numbers, I q12, I q22] 158, cOwn (α := Raw 2) 60 u0_3 rr1_4, cRo Bs2_5]) H rfl rfl rfl Sz34 (Sl.cells (ownSl (H.get (k := 2) rfl))) rfl rfl (by simp only [List.all_cons, List.all_nil, Bool.true_and, Bool.and_true, Sl.oc (ownSl (H.get (k := 2) rfl))]; try rfl) rfl rfl ?_
     intro w83z H
     refine s_nil <| W.region rfl <| sR (s3 : Int) 1 ((s3 : Int) + 1) rfl rfl rfl (by omega) <| sM (I ((s3 : Int) + 1)) rfl <| s_nil ?_
     exact ⟨m46z, lt47z, q1106, q2106, s3 + 1, l2 ++ ([(s3 : Int)]), v81z, _, upds_of _ _ ⟨rfl, rfl, rfl, rfl, rfl, rfl, rfl, rfl, rfl, trivial⟩, M.e_inl hM hN49z, (H.pick [2, 3, 4, 5, 6, 7, 8, 9, 10, 1] (by decide) rfl)⟩
    replace hM := M.e_f hM c77z
    refine W.skip <| W.region rfl <| sR (s3 : Int) 1 ((s3 : Int) + 1) rfl rfl rfl (by omega) <| sM (I ((s3 : Int) + 1)) rfl <| s_nil ?_
    exact ⟨m46z, lt47z, q1106, q2106, s3 + 1, l2, v_l2, _, upds_of _ _ ⟨rfl, rfl, rfl, rfl, rfl, rfl, rfl, rfl, rfl, trivial⟩, M.e_inl hM hN49z, (H.pick [1, 2, 3, 4, 5, 6, 7, 8, 9, 0] (by decide) rfl)⟩
   replace hM := M.e_f hM hg_
   refine g_val (!(r4.contains (s3 : Int))) (gy_f rfl) (fun hg => x_cmp (kd := .i64) (a := 0) (b := 0) (r := (0 : Int) == 0) (gd_of (c := !(r4.contains (s3 : Int))) hg (I 0)) rfl rfl) <| s_val (x_por (b := r4.contains (s3 : Int)) (r := (0 : Int) == 0) rfl rfl (fun hb => gd_of (c := !(r4.contains (s3 : Int))) (by first | exact hb | (rw [hb]; rfl) | simp_all) (B ((0 : Int) == 0)))) <| sM (B ((r4.contains (s3 : Int)) || ((0 : Int) == 0))) rfl <| g_val (!((r4.contains (s3 : Int)) || ((0 : Int) == 0))) (gy_f rfl) (fun hg => x_mv (v := Pz nb0_2) rfl) ?_
   refine g_splitV (!((r4.contains (s3 : Int)) || ((0 : Int) == 0))) (I 0) (gy_f rfl) (fun hg_ => ?_) (fun hg_ => ?_)
   ·replace hM := M.e_t hM hg_
    obtain ⟨r85z, hx84z, hM⟩ := M.e_bind hM
    refine s_call cf44 [Pz nb0_2, I 6] (lst2 (gd_of (c := !((r4.contains (s3 : Int)) || ((0 : Int) == 0))) hg_ (Pz nb0_2)) rfl) (nilometerkit_Stream_Next_ok tries s s2 6 (hC_tries.app _) hs_tries hx84z _ (St.give (L := [cBlk nb0_2 [v_tries, I s, I s2] 158, cOwn (α := Int) 3 v_l2 l2, cBlk b_8 [v_l2] 34, cOwn (α := Raw 0) 34 v_l5 rw_l5, cRo B_l5, cRo Bs_7, cOwn (α := Int) 3 u0_6 r4, cBlk nb0_1 [v_numbers, I q12, I q22] 158, cOwn (α := Raw 2) 60 u0_3 rr1_4, cRo Bs2_5]) (A := [cBlk nb0_2 [v_tries, I s, I s2] 158]) (T := [cOwn (α := Int) 3 v_l2 l2, cBlk b_8 [v_l2] 34, cOwn (α := Raw 0) 34 v_l5 rw_l5, cRo B_l5, cRo Bs_7, cOwn (α := Int) 3 u0_6 r4, cBlk nb0_1 [v_numbers, I q12, I q22] 158, cOwn (α := Raw 2) 60 u0_3 rr1_4, cRo Bs2_5]) (H.pick [9, 0, 1, 2, 3, 4, 5, 6, 7, 8] (by decide) rfl) rfl)) ?_
    rintro vq w86z ⟨r118, q1108, q2108, hr87z, hvq, H2_⟩
    subst hr87z
    subst vq
    try dsimp only at hM
    replace H : St w w86z [cBlk nb0_2 [v_tries, I q1108, I q2108] 158, cOwn (α := Int) 3 v_l2 l2, cBlk b_8 [v_l2] 34, cOwn (α := Raw 0) 34 v_l5 rw_l5, cRo B_l5, cRo Bs_7, cOwn (α := Int) 3 u0_6 r4, cBlk nb0_1 [v_numbers, I q12, I q22] 158, cOwn (α := Raw 2) 60 u0_3 rr1_4, cRo Bs2_5] R := H.pick [9, 0, 1, 2, 3, 4, 5, 6, 7, 8] (by decide) rfl |>.back H2_ rfl
    clear H2_
    refine g_val (!((r4.contains (s3 : Int)) || ((0 : Int) == 0))) (gy_f rfl) (fun hg => x_cmp (kd := .i64) (a := r118) (b := 0) (r := decide (0 < r118)) rfl rfl rfl) <| g_val (!((r4.contains (s3 : Int)) || ((0 : Int) == 0))) (gy_f rfl) (fun hg => x_mv (v := B (decide (0 < r118))) (gd_of (c := !((r4.contains (s3 : Int)) || ((0 : Int) == 0))) hg (B (decide (0 < r118))))) <| g_val ((!((r4.contains (s3 : Int)) || ((0 : Int) == 0))) && (decide (0 < r118))) (gy_gt rfl rfl) (fun hg => x_mv (v := u0_3) rfl) <| g_val ((!((r4.contains (s3 : Int)) || ((0 : Int) == 0))) && (decide (0 < r118))) (gy_gt rfl rfl) (fun hg => x_mv (v := I (s3 : Int)) rfl) ?_
    obtain ⟨sd88z, hM⟩ := M.e_grd hM
    replace sd88z := M.imp_of sd88z
    simp only [Bool.and_eq_true, decide_eq_true_eq] at sd88z
    refine g_val ((!((r4.contains (s3 : Int)) || ((0 : Int) == 0))) && (decide (0 < r118))) (gy_gt rfl rfl) (fun hg => x_ix (a := u0_3) (b := I (s3 : Int)) (v := vat u0_3 3 (Int.toNat (s3 : Int))) (gd_of (c := ((!((r4.contains (s3 : Int)) || ((0 : Int) == 0))) && (decide (0 < r118)))) hg (u0_3)) (gd_of (c := ((!((r4.contains (s3 : Int)) || ((0 : Int) == 0))) && (decide (0 < r118)))) hg (I (s3 : Int))) (Sl.ix (α := Work) T22.und T22.size (rowSl rfl (H.get (k := 8) rfl) (roLe _ (H.get (k := 9) rfl)) hf13z) (by have h1_ := sd88z.resolve_left (by rw [hg]; decide); first | omega | (have hx_ := hg; simp at hx_; omega)) (by have h1_ := sd88z.resolve_left (by rw [hg]; decide); first | omega | (have hx_ := hg; simp at hx_; omega)))) <| g_val ((!((r4.contains (s3 : Int)) || ((0 : Int) == 0))) && (decide (0 < r118))) (gy_gt rfl rfl) (fun hg => x_fa (a := vat u0_3 3 (Int.toNat (s3 : Int))) (v := fat (vat u0_3 3 (Int.toNat (s3 : Int))) 0) (gd_of (c := ((!((r4.contains (s3 : Int)) || ((0 : Int) == 0))) && (decide (0 < r118)))) hg (vat u0_3 3 (Int.toNat (s3 : Int)))) (fa_pl Fd60_0 Sz34 (Sl.pl (i := (s3 : Int)) (rowSl rfl (H.get (k := 8) rfl) (roLe _ (H.get (k := 9) rfl)) hf13z) (by have h1_ := sd88z.resolve_left (by rw [hg]; decide); first | omega | (have hx_ := hg; simp at hx_; omega)) (by have h1_ := sd88z.resolve_left (by rw [hg]; decide); first | omega | (have hx_ := hg; simp at hx_; omega))))) ?_
    obtain ⟨u89z, ha_u89z, hs90z⟩ := gd_ex (c := ((!((r4.contains (s3 : Int)) || ((0 : Int) == 0))) && (decide (0 < r118)))) fun hg => Work_at0 (rowSl rfl (H.get (k := 8) rfl) (roLe _ (H.get (k := 9) rfl)) hf13z) (i := (s3 : Int)) (by have h1_ := sd88z.resolve_left (by rw [hg]; decide); first | omega | (have hx_ := hg; simp at hx_; omega)) (by have h1_ := sd88z.resolve_left (by rw [hg]; decide); first | omega | (have hx_ := hg; simp at hx_; omega))
    replace hs90z : ((!((r4.contains (s3 : Int)) || ((0 : Int) == 0))) && (decide (0 < r118))) = true → Sl _ u89z (r3.getD s3 default).of := hs90z
    refine g_val ((!((r4.contains (s3 : Int)) || ((0 : Int) == 0))) && (decide (0 < r118))) (gy_gt rfl rfl) (fun hg => x_ld (p := fat (vat u0_3 3 (Int.toNat (s3 : Int))) 0) (v := u89z) (gd_of (c := ((!((r4.contains (s3 : Int)) || ((0 : Int) == 0))) && (decide (0 < r118)))) hg (fat (vat u0_3 3 (Int.toNat (s3 : Int))) 0)) (ld_sc Sc34 (At.mono (ha_u89z hg) (Cells.sup_le (ownLe _ (H.get (k := 8) rfl)) (roLe _ (H.get (k := 9) rfl)))))) <| g_val ((!((r4.contains (s3 : Int)) || ((0 : Int) == 0))) && (decide (0 < r118))) (gy_gt rfl rfl) (fun hg => x_mf (fs := []) (cs := [Pz b_8]) rfl rfl) ?_
    obtain ⟨r7, hx91z, hM⟩ := M.e_bind hM
    refine t_gcall ((!((r4.contains (s3 : Int)) || ((0 : Int) == 0))) && (decide (0 < r118))) (gy_gt rfl rfl) cf48 (B r7) (fun _ => [u89z, .func (.func 49) #[] #[Pz b_8]]) (fun hg => lst2 (gd_of (c := ((!((r4.contains (s3 : Int)) || ((0 : Int) == 0))) && (decide (0 < r118)))) hg (u89z)) (gd_of (c := ((!((r4.contains (s3 : Int)) || ((0 : Int) == 0))) && (decide (0 < r118)))) hg (.func (.func 49) #[] #[Pz b_8]))) H (fun hg => (slices_ContainsFunc_int_ok ((r3.getD s3 default).of) (fun xqz => m_nilometerlaw13_NotesFenced_1 xqz l2) (Reads.sup (Reads.of (k := 8) rfl ownLe) (Reads.of (k := 9) rfl roLe)) (hs90z hg) ⟨49, [Pz b_8], rfl, cf49, fun wqz Lqz Cqz vqz xqz bqz hsqz hCqz hAqz hpqz => by obtain rfl := Arg.int hAqz; exact (nilometerlaw13_NotesFenced_1_ok xqz l2 (Reads.app (Reads.of (k := 1) rfl ownLe) _) (ownSl (H.get (k := 1) rfl)) (Has.app (Has.here (k := 2) rfl) _) hpqz wqz (St.refl hsqz)).mono fun vqz wqz ⟨yqz, hrqz, hvqz, Hqz⟩ => by subst hrqz; exact ⟨hvqz, Hqz⟩⟩ (M.e_opt hx91z hg) _ (H.give (A := []) rfl)).mono fun v_ w_ ⟨y_, hr_, hv_, H_⟩ => by subst hr_; exact ⟨hv_, H.via H_⟩) ?_
    intro w92z H
    refine g_val (!((r4.contains (s3 : Int)) || ((0 : Int) == 0))) (gy_f rfl) (fun hg => x_pand (b := decide (0 < r118)) (r := r7) (gd_of (c := !((r4.contains (s3 : Int)) || ((0 : Int) == 0))) hg (B (decide (0 < r118)))) (fun hb => gd_of (c := ((!((r4.contains (s3 : Int)) || ((0 : Int) == 0))) && (decide (0 < r118)))) (by first | exact hb | (rw [hb]; rfl) | simp_all) (B r7)) rfl) <| s_val (x_por (b := ((r4.contains (s3 : Int)) || ((0 : Int) == 0))) (r := ((decide (0 < r118)) && r7)) rfl rfl (fun hb => gd_of (c := !((r4.contains (s3 : Int)) || ((0 : Int) == 0))) (by first | exact hb | (rw [hb]; rfl) | simp_all) (B ((decide (0 < r118)) && r7)))) <| s_nil ?_
    refine W.cond (((r4.contains (s3 : Int)) || ((0 : Int) == 0)) || ((decide (0 < r118)) && r7)) rfl (fun c93z => ?_) (fun c93z => ?_)
    ·replace hM := M.e_t hM c93z
     refine W.region rfl <| s_val (x_ld (p := Pz b_8) (v := v_l2) rfl (ldb_sc Sc34 (H.blk (k := 2) rfl) rfl)) <| sM (I (s3 : Int)) rfl ?_
     refine t_bs (α := Int) T34 [I (s3 : Int)] [(s3 : Int)] H rfl (.cons rfl (Flat.rep_enc _ (s3 : Int)) <| .nil) rfl rfl rfl ?_
     intro v94z w95z H
     obtain ⟨sd96z, hM⟩ := M.e_gd hM
     refine t_app (α := Int) (k := 2) (l := l2) (l2 := [(s3 : Int)]) (l' := l2 ++ ([(s3 : Int)])) (vy := v94z) T34 rfl H rfl rfl rfl (ownSl (H.get (k := 0) rfl)) (ownLe _ (H.get (k := 0) rfl)) (rfl) (by first | omega | (simp only [List.length_nil] at *; omega)) ?_
     intro v97z w98z H
     replace H : St w w98z [cOwn (α := Int) 3 v94z ([(s3 : Int)]), cBlk nb0_2 [v_tries, I q1108, I q2108] 158, cOwn (α := Int) 3 v97z (l2 ++ ([(s3 : Int)])), cBlk b_8 [v_l2] 34, cOwn (α := Raw 0) 34 v_l5 rw_l5, cRo B_l5, cRo Bs_7, cOwn (α := Int) 3 u0_6 r4, cBlk nb0_1 [v_numbers, I q12, I q22] 158, cOwn (α := Raw 2) 60 u0_3 rr1_4, cRo Bs2_5] R := H
     refine t_st (k := 3) (b := b_8) (off := 0) (cs := [v_l2]) (vs := [v97z]) (cs' := [v97z]) (v := v97z) (L' := [cOwn (α := Int) 3 v94z ([(s3 : Int)]), cBlk nb0_2 [v_tries, I q1108, I q2108] 158, cOwn (α := Int) 3 v97z (l2 ++ ([(s3 : Int)])), cBlk b_8 [v97z] 34, cOwn (α := Raw 0) 34 v_l5 rw_l5, cRo B_l5, cRo Bs_7, cOwn (α := Int) 3 u0_6 r4, cBlk nb0_1 [v_numbers, I q12, I q22] 158, cOwn (α := Raw 2) 60 u0_3 rr1_4, cRo Bs2_5]) H rfl rfl rfl Sz34 (Sl.cells (ownSl (H.get (k := 2) rfl))) rfl rfl (by simp only [List.all_cons, List.all_nil, Bool.true_and, Bool.and_true, Sl.oc (ownSl (H.get (k := 2) rfl))]; try rfl) rfl rfl ?_
     intro w99z H
     refine s_nil <| W.region rfl <| sR (s3 : Int) 1 ((s3 : Int) + 1) rfl rfl rfl (by omega) <| sM (I ((s3 : Int) + 1)) rfl <| s_nil ?_
     exact ⟨m46z, lt47z, q1108, q2108, s3 + 1, l2 ++ ([(s3 : Int)]), v97z, _, upds_of _ _ ⟨rfl, rfl, rfl, rfl, rfl, rfl, rfl, rfl, rfl, trivial⟩, M.e_inl hM hN49z, (H.pick [2, 3, 4, 5, 6, 7, 8, 9, 10, 1] (by decide) rfl)⟩
    replace hM := M.e_f hM c93z
    refine W.skip <| W.region rfl <| sR (s3 : Int) 1 ((s3 : Int) + 1) rfl rfl rfl (by omega) <| sM (I ((s3 : Int) + 1)) rfl <| s_nil ?_
    exact ⟨m46z, lt47z, q1108, q2108, s3 + 1, l2, v_l2, _, upds_of _ _ ⟨rfl, rfl, rfl, rfl, rfl, rfl, rfl, rfl, rfl, trivial⟩, M.e_inl hM hN49z, (H.pick [1, 2, 3, 4, 5, 6, 7, 8, 9, 0] (by decide) rfl)⟩
   replace hM := M.e_f hM hg_
   refine g_val (!((r4.contains (s3 : Int)) || ((0 : Int) == 0))) (gy_f rfl) (fun hg => x_cmp (kd := .i64) (a := 0) (b := 0) (r := decide ((0 : Int) < 0)) (gd_of (c := !((r4.contains (s3 : Int)) || ((0 : Int) == 0))) hg (I 0)) rfl rfl) <| g_val (!((r4.contains (s3 : Int)) || ((0 : Int) == 0))) (gy_f rfl) (fun hg => x_mv (v := B (decide ((0 : Int) < 0))) (gd_of (c := !((r4.contains (s3 : Int)) || ((0 : Int) == 0))) hg (B (decide ((0 : Int) < 0))))) <| g_val ((!((r4.contains (s3 : Int)) || ((0 : Int) == 0))) && (decide ((0 : Int) < 0))) (gy_gt rfl rfl) (fun hg => x_mv (v := u0_3) rfl) <| g_val ((!((r4.contains (s3 : Int)) || ((0 : Int) == 0))) && (decide ((0 : Int) < 0))) (gy_gt rfl rfl) (fun hg => x_mv (v := I (s3 : Int)) rfl) ?_
   obtain ⟨sd100z, hM⟩ := M.e_grd hM
   replace sd100z := M.imp_of sd100z
   simp only [Bool.and_eq_true, decide_eq_true_eq] at sd100z
   refine g_val ((!((r4.contains (s3 : Int)) || ((0 : Int) == 0))) && (decide ((0 : Int) < 0))) (gy_gt rfl rfl) (fun hg => x_ix (a := u0_3) (b := I (s3 : Int)) (v := vat u0_3 3 (Int.toNat (s3 : Int))) (gd_of (c := ((!((r4.contains (s3 : Int)) || ((0 : Int) == 0))) && (decide ((0 : Int) < 0)))) hg (u0_3)) (gd_of (c := ((!((r4.contains (s3 : Int)) || ((0 : Int) == 0))) && (decide ((0 : Int) < 0)))) hg (I (s3 : Int))) (Sl.ix (α := Work) T22.und T22.size (rowSl rfl (H.get (k := 7) rfl) (roLe _ (H.get (k := 8) rfl)) hf13z) (by have h1_ := sd100z.resolve_left (by rw [hg]; decide); first | omega | (have hx_ := hg; simp at hx_; omega)) (by have h1_ := sd100z.resolve_left (by rw [hg]; decide); first | omega | (have hx_ := hg; simp at hx_; omega)))) <| g_val ((!((r4.contains (s3 : Int)) || ((0 : Int) == 0))) && (decide ((0 : Int) < 0))) (gy_gt rfl rfl) (fun hg => x_fa (a := vat u0_3 3 (Int.toNat (s3 : Int))) (v := fat (vat u0_3 3 (Int.toNat (s3 : Int))) 0) (gd_of (c := ((!((r4.contains (s3 : Int)) || ((0 : Int) == 0))) && (decide ((0 : Int) < 0)))) hg (vat u0_3 3 (Int.toNat (s3 : Int)))) (fa_pl Fd60_0 Sz34 (Sl.pl (i := (s3 : Int)) (rowSl rfl (H.get (k := 7) rfl) (roLe _ (H.get (k := 8) rfl)) hf13z) (by have h1_ := sd100z.resolve_left (by rw [hg]; decide); first | omega | (have hx_ := hg; simp at hx_; omega)) (by have h1_ := sd100z.resolve_left (by rw [hg]; decide); first | omega | (have hx_ := hg; simp at hx_; omega))))) ?_
   obtain ⟨u101z, ha_u101z, hs102z⟩ := gd_ex (c := ((!((r4.contains (s3 : Int)) || ((0 : Int) == 0))) && (decide ((0 : Int) < 0)))) fun hg => Work_at0 (rowSl rfl (H.get (k := 7) rfl) (roLe _ (H.get (k := 8) rfl)) hf13z) (i := (s3 : Int)) (by have h1_ := sd100z.resolve_left (by rw [hg]; decide); first | omega | (have hx_ := hg; simp at hx_; omega)) (by have h1_ := sd100z.resolve_left (by rw [hg]; decide); first | omega | (have hx_ := hg; simp at hx_; omega))
   replace hs102z : ((!((r4.contains (s3 : Int)) || ((0 : Int) == 0))) && (decide ((0 : Int) < 0))) = true → Sl _ u101z (r3.getD s3 default).of := hs102z
   refine g_val ((!((r4.contains (s3 : Int)) || ((0 : Int) == 0))) && (decide ((0 : Int) < 0))) (gy_gt rfl rfl) (fun hg => x_ld (p := fat (vat u0_3 3 (Int.toNat (s3 : Int))) 0) (v := u101z) (gd_of (c := ((!((r4.contains (s3 : Int)) || ((0 : Int) == 0))) && (decide ((0 : Int) < 0)))) hg (fat (vat u0_3 3 (Int.toNat (s3 : Int))) 0)) (ld_sc Sc34 (At.mono (ha_u101z hg) (Cells.sup_le (ownLe _ (H.get (k := 7) rfl)) (roLe _ (H.get (k := 8) rfl)))))) <| g_val ((!((r4.contains (s3 : Int)) || ((0 : Int) == 0))) && (decide ((0 : Int) < 0))) (gy_gt rfl rfl) (fun hg => x_mf (fs := []) (cs := [Pz b_8]) rfl rfl) ?_
   obtain ⟨r7, hx103z, hM⟩ := M.e_bind hM
   refine t_gcall ((!((r4.contains (s3 : Int)) || ((0 : Int) == 0))) && (decide ((0 : Int) < 0))) (gy_gt rfl rfl) cf48 (B r7) (fun _ => [u101z, .func (.func 49) #[] #[Pz b_8]]) (fun hg => lst2 (gd_of (c := ((!((r4.contains (s3 : Int)) || ((0 : Int) == 0))) && (decide ((0 : Int) < 0)))) hg (u101z)) (gd_of (c := ((!((r4.contains (s3 : Int)) || ((0 : Int) == 0))) && (decide ((0 : Int) < 0)))) hg (.func (.func 49) #[] #[Pz b_8]))) H (fun hg => (slices_ContainsFunc_int_ok ((r3.getD s3 default).of) (fun xqz => m_nilometerlaw13_NotesFenced_1 xqz l2) (Reads.sup (Reads.of (k := 7) rfl ownLe) (Reads.of (k := 8) rfl roLe)) (hs102z hg) ⟨49, [Pz b_8], rfl, cf49, fun wqz Lqz Cqz vqz xqz bqz hsqz hCqz hAqz hpqz => by obtain rfl := Arg.int hAqz; exact (nilometerlaw13_NotesFenced_1_ok xqz l2 (Reads.app (Reads.of (k := 0) rfl ownLe) _) (ownSl (H.get (k := 0) rfl)) (Has.app (Has.here (k := 1) rfl) _) hpqz wqz (St.refl hsqz)).mono fun vqz wqz ⟨yqz, hrqz, hvqz, Hqz⟩ => by subst hrqz; exact ⟨hvqz, Hqz⟩⟩ (M.e_opt hx103z hg) _ (H.give (A := []) rfl)).mono fun v_ w_ ⟨y_, hr_, hv_, H_⟩ => by subst hr_; exact ⟨hv_, H.via H_⟩) ?_
   intro w104z H
   refine g_val (!((r4.contains (s3 : Int)) || ((0 : Int) == 0))) (gy_f rfl) (fun hg => x_pand (b := decide ((0 : Int) < 0)) (r := r7) (gd_of (c := !((r4.contains (s3 : Int)) || ((0 : Int) == 0))) hg (B (decide ((0 : Int) < 0)))) (fun hb => gd_of (c := ((!((r4.contains (s3 : Int)) || ((0 : Int) == 0))) && (decide ((0 : Int) < 0)))) (by first | exact hb | (rw [hb]; rfl) | simp_all) (B r7)) rfl) <| s_val (x_por (b := ((r4.contains (s3 : Int)) || ((0 : Int) == 0))) (r := ((decide ((0 : Int) < 0)) && r7)) rfl rfl (fun hb => gd_of (c := !((r4.contains (s3 : Int)) || ((0 : Int) == 0))) (by first | exact hb | (rw [hb]; rfl) | simp_all) (B ((decide ((0 : Int) < 0)) && r7)))) <| s_nil ?_
   refine W.cond (((r4.contains (s3 : Int)) || ((0 : Int) == 0)) || ((decide ((0 : Int) < 0)) && r7)) rfl (fun c105z => ?_) (fun c105z => ?_)
   ·replace hM := M.e_t hM c105z
    refine W.region rfl <| s_val (x_ld (p := Pz b_8) (v := v_l2) rfl (ldb_sc Sc34 (H.blk (k := 1) rfl) rfl)) <| sM (I (s3 : Int)) rfl ?_
    refine t_bs (α := Int) T34 [I (s3 : Int)] [(s3 : Int)] H rfl (.cons rfl (Flat.rep_enc _ (s3 : Int)) <| .nil) rfl rfl rfl ?_
    intro v106z w107z H
    obtain ⟨sd108z, hM⟩ := M.e_gd hM
    refine t_app (α := Int) (k := 1) (l := l2) (l2 := [(s3 : Int)]) (l' := l2 ++ ([(s3 : Int)])) (vy := v106z) T34 rfl H rfl rfl rfl (ownSl (H.get (k := 0) rfl)) (ownLe _ (H.get (k := 0) rfl)) (rfl) (by first | omega | (simp only [List.length_nil] at *; omega)) ?_
    intro v109z w110z H
    replace H : St w w110z [cOwn (α := Int) 3 v106z ([(s3 : Int)]), cOwn (α := Int) 3 v109z (l2 ++ ([(s3 : Int)])), cBlk b_8 [v_l2] 34, cOwn (α := Raw 0) 34 v_l5 rw_l5, cRo B_l5, cRo Bs_7, cOwn (α := Int) 3 u0_6 r4, cBlk nb0_1 [v_numbers, I q12, I q22] 158, cOwn (α := Raw 2) 60 u0_3 rr1_4, cRo Bs2_5, cBlk nb0_2 [v_tries, I s, I s2] 158] R := H
    refine t_st (k := 2) (b := b_8) (off := 0) (cs := [v_l2]) (vs := [v109z]) (cs' := [v109z]) (v := v109z) (L' := [cOwn (α := Int) 3 v106z ([(s3 : Int)]), cOwn (α := Int) 3 v109z (l2 ++ ([(s3 : Int)])), cBlk b_8 [v109z] 34, cOwn (α := Raw 0) 34 v_l5 rw_l5, cRo B_l5, cRo Bs_7, cOwn (α := Int) 3 u0_6 r4, cBlk nb0_1 [v_numbers, I q12, I q22] 158, cOwn (α := Raw 2) 60 u0_3 rr1_4, cRo Bs2_5, cBlk nb0_2 [v_tries, I s, I s2] 158]) H rfl rfl rfl Sz34 (Sl.cells (ownSl (H.get (k := 1) rfl))) rfl rfl (by simp only [List.all_cons, List.all_nil, Bool.true_and, Bool.and_true, Sl.oc (ownSl (H.get (k := 1) rfl))]; try rfl) rfl rfl ?_
    intro w111z H
    refine s_nil <| W.region rfl <| sR (s3 : Int) 1 ((s3 : Int) + 1) rfl rfl rfl (by omega) <| sM (I ((s3 : Int) + 1)) rfl <| s_nil ?_
    exact ⟨m46z, lt47z, s, s2, s3 + 1, l2 ++ ([(s3 : Int)]), v109z, _, upds_of _ _ ⟨rfl, rfl, rfl, rfl, rfl, rfl, rfl, rfl, rfl, trivial⟩, M.e_inl hM hN49z, (H.pick [1, 2, 3, 4, 5, 6, 7, 8, 9, 10] (by decide) rfl)⟩
   replace hM := M.e_f hM c105z
   refine W.skip <| W.region rfl <| sR (s3 : Int) 1 ((s3 : Int) + 1) rfl rfl rfl (by omega) <| sM (I ((s3 : Int) + 1)) rfl <| s_nil ?_
   exact ⟨m46z, lt47z, s, s2, s3 + 1, l2, v_l2, _, upds_of _ _ ⟨rfl, rfl, rfl, rfl, rfl, rfl, rfl, rfl, rfl, trivial⟩, M.e_inl hM hN49z, H⟩
  replace hM := M.e_f hM c50z
  simp only [qz1, qz2, qz3, qz4, qz5, qz6, ne_eq, qz7] at c50z
  refine W.exit ?_
  have hX112z := M.e_inr hM hN49z
  subst hX112z
  replace hM := hk42z
  try dsimp only at hM
  refine sQ rfl <| sM u0_3 rfl <| sM u0_6 rfl <| s_val (x_ld (p := Pz b_8) (v := v_l2) rfl (ldb_sc Sc34 (H.blk (k := 1) rfl) rfl)) ?_
  obtain ⟨r114z, hx113z, hM⟩ := M.e_bind hM
  refine s_call cf34 [u0_3, u0_6, v_l2] rfl (notes_Fences_ok r3 r4 l2 (Reads.sup (Reads.of (k := 7) rfl ownLe) (Reads.of (k := 8) rfl roLe)) (rowSl rfl (H.get (k := 7) rfl) (roLe _ (H.get (k := 8) rfl)) hf13z) (Reads.of (k := 5) rfl ownLe) (ownSl (H.get (k := 5) rfl)) (Reads.of (k := 0) rfl ownLe) (ownSl (H.get (k := 0) rfl)) hx113z _ (St.give (T := [cOwn (α := Int) 3 v_l2 l2, cBlk b_8 [v_l2] 34, cOwn (α := Raw 0) 34 v_l5 rw_l5, cRo B_l5, cRo Bs_7, cOwn (α := Int) 3 u0_6 r4, cBlk nb0_1 [v_numbers, I q12, I q22] 158, cOwn (α := Raw 2) 60 u0_3 rr1_4, cRo Bs2_5, cBlk nb0_2 [v_tries, I s, I s2] 158]) H rfl)) ?_
  rintro vq w115z ⟨r0, r110, hr116z, hvq, H2_⟩
  subst hr116z
  subst vq
  try dsimp only at hM
  replace H : St w w115z [cOwn (α := Int) 3 v_l2 l2, cBlk b_8 [v_l2] 34, cOwn (α := Raw 0) 34 v_l5 rw_l5, cRo B_l5, cRo Bs_7, cOwn (α := Int) 3 u0_6 r4, cBlk nb0_1 [v_numbers, I q12, I q22] 158, cOwn (α := Raw 2) 60 u0_3 rr1_4, cRo Bs2_5, cBlk nb0_2 [v_tries, I s, I s2] 158] R := H.back H2_ rfl
  clear H2_
  refine sM (.tuple #[B r0, I r110]) rfl <| sX [B r0, I r110] (B r0) rfl rfl <| sX [B r0, I r110] (I r110) rfl rfl <| sA (B r0) rfl <| sA (I r110) rfl <| s_nil <| W.seq <| sQ rfl <| sM (I r110) rfl <| sC r110 0 (r110 != 0) rfl rfl rfl <| s_nil ?_
  refine W.cond (r110 != 0) rfl (fun c117z => ?_) (fun c117z => ?_)
  ·replace hM := M.e_t hM c117z
   simp only [qz1, qz2, qz3, qz4, qz5, qz6, ne_eq, qz7] at c117z
   refine sQ rfl <| sA (B false) rfl <| s_nil ?_
   refine W.ret ?_
   have hX118z := M.e_inr hM hN36z
   subst hX118z
   replace hM := hk29z
   try dsimp only at hM
   have hr_ := M.e_pure hM
   exact ⟨_, resE_tmp rfl, ⟨false, hr_, rfl, (H.pick [] (by decide) rfl)⟩⟩
  replace hM := M.e_f hM c117z
  simp only [qz1, qz2, qz3, qz4, qz5, qz6, ne_eq, qz7] at c117z
  refine W.skip <| W.seq <| sQ rfl <| sM (B r0) rfl <| s_nil ?_
  refine W.cond r0 rfl (fun c119z => ?_) (fun c119z => ?_)
  ·replace hM := M.e_t hM c119z
   refine W.region rfl <| sM v_l5 rfl <| s_val (x_ld (p := Pz b_8) (v := v_l2) rfl (ldb_sc Sc34 (H.blk (k := 1) rfl) rfl)) ?_
   obtain ⟨Bs_12, H⟩ := H.emptyE
   obtain ⟨Bs_13, H, hs121z⟩ := H.freezeE (k := 1) rfl
   replace H : St w w115z [cRo Bs_12, cRo Bs_13, cBlk b_8 [v_l2] 34, cOwn (α := Raw 0) 34 v_l5 rw_l5, cRo B_l5, cRo Bs_7, cOwn (α := Int) 3 u0_6 r4, cBlk nb0_1 [v_numbers, I q12, I q22] 158, cOwn (α := Raw 2) 60 u0_3 rr1_4, cRo Bs2_5, cBlk nb0_2 [v_tries, I s, I s2] 158] R := H
   have hq120z := hs121z
   obtain ⟨Bs_14, H, le122z, le123z⟩ := H.joinE (i := 0) (j := 1) rfl rfl
   replace hq120z := hq120z.mono le123z
   obtain ⟨rw124z, hrw_rw124z⟩ : ∃ r : Raw 0, r.cs = [v_l2] := ⟨Raw.of [v_l2] rfl (by simp only [List.all_cons, List.all_nil, Bool.true_and, Bool.and_true, Sl.oc hq120z]; try rfl), rfl⟩
   have hr125z : RepR (α := List Int) Bs_14.cells [rw124z] [l2] := .cons (by rw [hrw_rw124z]; exact ⟨_, rfl, hq120z⟩) <| .nil
   refine t_bs (α := Raw 0) T73 [v_l2] [rw124z] H rfl (.cons (by rw [show (Flat.enc rw124z : List Value) = rw124z.cs from rfl, hrw_rw124z]; exact Sl.cells hq120z) (Flat.rep_enc _ _) <| .nil) rfl rfl rfl ?_
   intro v126z w127z H
   replace H : St w w127z [cOwn (α := Raw 0) 34 v126z ([rw124z]), cRo Bs_14, cRo Bs_12, cRo Bs_13, cBlk b_8 [v_l2] 34, cOwn (α := Raw 0) 34 v_l5 rw_l5, cRo B_l5, cRo Bs_7, cOwn (α := Int) 3 u0_6 r4, cBlk nb0_1 [v_numbers, I q12, I q22] 158, cOwn (α := Raw 2) 60 u0_3 rr1_4, cRo Bs2_5, cBlk nb0_2 [v_tries, I s, I s2] 158] R := H
   obtain ⟨sd128z, hM⟩ := M.e_gd hM
   have hr129z := hr125z
   obtain ⟨Bs_18, H, le130z, le131z⟩ := H.joinE (i := 6) (j := 1) rfl rfl
   replace hr_l5 := hr_l5.mono le130z
   replace hr129z := hr129z.mono le131z
   have hr134z := hr_l5.app hr129z
   refine t_app (α := Raw 0) (k := 6) (l := rw_l5) (l2 := [rw124z]) (l' := rw_l5 ++ ([rw124z])) (vy := v126z) T73 rfl H rfl rfl rfl (ownSl (H.get (k := 1) rfl)) (ownLe _ (H.get (k := 1) rfl)) (rfl) (by have a_ := hr_l5.len; have b_ := hr129z.len; simp only [List.length_nil] at *; first | omega | (rw [a_, b_]; omega)) ?_
   intro v132z w133z H
   replace H : St w w133z [cRo Bs_18, cOwn (α := Raw 0) 34 v126z ([rw124z]), cRo Bs_14, cRo Bs_12, cRo Bs_13, cBlk b_8 [v_l2] 34, cOwn (α := Raw 0) 34 v132z (rw_l5 ++ ([rw124z])), cRo B_l5, cRo Bs_7, cOwn (α := Int) 3 u0_6 r4, cBlk nb0_1 [v_numbers, I q12, I q22] 158, cOwn (α := Raw 2) 60 u0_3 rr1_4, cRo Bs2_5, cBlk nb0_2 [v_tries, I s, I s2] 158] R := H
   refine sA v132z rfl <| s_nil <| sQ rfl <| sM u19z rfl ?_
   have hl135z := (hs20z).len_le
   refine s_val (x_lenS T34.und rfl hs20z) <| sM (I 0) rfl <| s_nil <| W.block ?_
   obtain ⟨ex136z, hi137z, hk138z⟩ := M.e_bind hM
   obtain ⟨m0_, hi137z⟩ := M.e_iter hi137z
   refine W.loop (fun m σ W => ∃ (s6 : Nat) (ρ : Env), σ = upds ρ [(6, Pz nb0_2), (7, u0_3), (8, u0_6), (9, u19z), (11, v132z), (12, Pz b_8), (14, B r0), (55, I (s9 : Int)), (103, u19z), (104, I (l.length : Int)), (105, I (s6 : Int))] ∧ M.iterN (m_nilometerlaw13_NotesFenced_b7 l l2 r0) m s6 = some ex136z ∧ St w W [cRo Bs_18, cOwn (α := Raw 0) 34 v126z ([rw124z]), cRo Bs_14, cRo Bs_12, cRo Bs_13, cBlk b_8 [v_l2] 34, cOwn (α := Raw 0) 34 v132z (rw_l5 ++ ([rw124z])), cRo B_l5, cRo Bs_7, cOwn (α := Int) 3 u0_6 r4, cBlk nb0_1 [v_numbers, I q12, I q22] 158, cOwn (α := Raw 2) 60 u0_3 rr1_4, cRo Bs2_5, cBlk nb0_2 [v_tries, I s, I s2] 158] R) ?_ ?_
   ·exact ⟨_, 0, _, upds_of _ _ ⟨rfl, rfl, rfl, rfl, rfl, rfl, rfl, rfl, rfl, rfl, rfl, trivial⟩, hi137z, H⟩
   rintro m141z σ w139z ⟨s6, ρ, rfl, hI140z, H⟩
   obtain ⟨m142z, lt143z, x144z, hM, hN145z⟩ := M.e_iterN hI140z
   simp only [m_nilometerlaw13_NotesFenced_b7] at hM
   clear hI140z
   refine sQ rfl <| sC (s6 : Int) (l.length : Int) (decide ((s6 : Int) < (l.length : Int))) rfl rfl rfl <| s_nil <| W.seq ?_
   refine W.cond (decide ((s6 : Int) < (l.length : Int))) rfl (fun c146z => ?_) (fun c146z => ?_)
   ·replace hM := M.e_t hM c146z
    simp only [qz1, qz2, qz3, qz4, qz5, qz6, ne_eq, qz7] at c146z
    refine W.skip <| W.seq <| W.block <| sQ rfl ?_
    obtain ⟨sd147z, hM⟩ := M.e_gd hM
    refine s_val (x_ix (a := u19z) (b := I (s6 : Int)) (v := vat u19z 1 (Int.toNat (s6 : Int))) rfl rfl (Sl.ix (α := Int) T34.und T34.size hs20z (by omega) (by omega))) <| s_val (x_ld (p := vat u19z 1 (Int.toNat (s6 : Int))) (v := I (l.getD s6 0)) rfl (ld_sc Sc3 (At.mono (Int_at hs20z (i := (s6 : Int)) (by omega) (by omega)) (roLe _ (H.get (k := 8) rfl))))) <| sA (I (l.getD s6 0)) rfl <| s_nil <| sQ rfl <| sM (B r0) rfl <| sM (B r0) rfl <| g_val r0 (gy_t rfl) (fun hg => x_ld (p := Pz b_8) (v := v_l2) rfl (ldb_sc Sc34 (H.blk (k := 5) rfl) rfl)) <| g_val r0 (gy_t rfl) (fun hg => x_mv (v := I (l.getD s6 0)) rfl) ?_
    refine t_gcall r0 (gy_t rfl) cf45 (B (l2.contains (l.getD s6 0))) (fun _ => [v_l2, I (l.getD s6 0)]) (fun hg => lst2 (gd_of (c := r0) hg (v_l2)) (gd_of (c := r0) hg (I (l.getD s6 0)))) H (fun hg => Ret.mono (contains_int (l.getD s6 0) _ (hs121z.mono (roLe _ (H.get (k := 4) rfl)))) fun v_ w_ ⟨hv_, hx_⟩ => ⟨hv_, H.ext hx_⟩) ?_
    intro w148z H
    refine g_val r0 (gy_t rfl) (fun hg => x_not (b := l2.contains (l.getD s6 0)) (gd_of (c := r0) hg (B (l2.contains (l.getD s6 0))))) <| s_val (x_pand (b := r0) (r := !(l2.contains (l.getD s6 0))) rfl (fun hb => gd_of (c := r0) (by first | exact hb | (rw [hb]; rfl) | simp_all) (B (!(l2.contains (l.getD s6 0))))) rfl) <| s_nil ?_
    refine W.cond (r0 && (!(l2.contains (l.getD s6 0)))) rfl (fun c149z => ?_) (fun c149z => ?_)
    ·replace hM := M.e_t hM c149z
     refine sQ rfl <| sA (B false) rfl <| s_nil ?_
     refine W.ret ?_
     have hX150z := M.e_inr hM hN145z
     subst hX150z
     replace hM := hk138z
     try dsimp only at hM
     have hX151z := M.e_inr hM hN36z
     subst hX151z
     replace hM := hk29z
     try dsimp only at hM
     have hr_ := M.e_pure hM
     exact ⟨_, resE_tmp rfl, ⟨false, hr_, rfl, (H.pick [] (by decide) rfl)⟩⟩
    replace hM := M.e_f hM c149z
    refine W.skip <| W.region rfl <| sR (s6 : Int) 1 ((s6 : Int) + 1) rfl rfl rfl (by omega) <| sM (I ((s6 : Int) + 1)) rfl <| s_nil ?_
    exact ⟨m142z, lt143z, s6 + 1, _, upds_of _ _ ⟨rfl, rfl, rfl, rfl, rfl, rfl, rfl, rfl, rfl, rfl, rfl, trivial⟩, M.e_inl hM hN145z, H⟩
   replace hM := M.e_f hM c146z
   simp only [qz1, qz2, qz3, qz4, qz5, qz6, ne_eq, qz7] at c146z
   refine W.exit ?_
   have hX152z := M.e_inr hM hN145z
   subst hX152z
   replace hM := hk138z
   try dsimp only at hM
   refine W.region rfl <| sR (s9 : Int) 1 ((s9 : Int) + 1) rfl rfl rfl (by omega) <| sM (I ((s9 : Int) + 1)) rfl <| s_nil ?_
   exact ⟨m33z, lt34z, s, s2, s9 + 1, l5 ++ ([l2]), v132z, rw_l5 ++ ([rw124z]), Bs_18, _, upds_of _ _ ⟨rfl, rfl, rfl, rfl, rfl, rfl, trivial⟩, M.e_inl hM hN36z, (H.pick [6, 0, 8, 9, 10, 11, 12, 13] (by decide) rfl), hr134z⟩
  replace hM := M.e_f hM c119z
  refine W.skip <| sQ rfl <| sM u19z rfl ?_
  have hl153z := (hs20z).len_le
  refine s_val (x_lenS T34.und rfl hs20z) <| sM (I 0) rfl <| s_nil <| W.block ?_
  obtain ⟨ex154z, hi155z, hk156z⟩ := M.e_bind hM
  obtain ⟨m0_, hi155z⟩ := M.e_iter hi155z
  refine W.loop (fun m σ W => ∃ (s6 : Nat) (ρ : Env), σ = upds ρ [(6, Pz nb0_2), (7, u0_3), (8, u0_6), (9, u19z), (11, v_l5), (12, Pz b_8), (14, B r0), (55, I (s9 : Int)), (103, u19z), (104, I (l.length : Int)), (105, I (s6 : Int))] ∧ M.iterN (m_nilometerlaw13_NotesFenced_b8 l l2 r0) m s6 = some ex154z ∧ St w W [cOwn (α := Int) 3 v_l2 l2, cBlk b_8 [v_l2] 34, cOwn (α := Raw 0) 34 v_l5 rw_l5, cRo B_l5, cRo Bs_7, cOwn (α := Int) 3 u0_6 r4, cBlk nb0_1 [v_numbers, I q12, I q22] 158, cOwn (α := Raw 2) 60 u0_3 rr1_4, cRo Bs2_5, cBlk nb0_2 [v_tries, I s, I s2] 158] R) ?_ ?_
  ·exact ⟨_, 0, _, upds_of _ _ ⟨rfl, rfl, rfl, rfl, rfl, rfl, rfl, rfl, rfl, rfl, rfl, trivial⟩, hi155z, H⟩
  rintro m159z σ w157z ⟨s6, ρ, rfl, hI158z, H⟩
  obtain ⟨m160z, lt161z, x162z, hM, hN163z⟩ := M.e_iterN hI158z
  simp only [m_nilometerlaw13_NotesFenced_b8] at hM
  clear hI158z
  refine sQ rfl <| sC (s6 : Int) (l.length : Int) (decide ((s6 : Int) < (l.length : Int))) rfl rfl rfl <| s_nil <| W.seq ?_
  refine W.cond (decide ((s6 : Int) < (l.length : Int))) rfl (fun c164z => ?_) (fun c164z => ?_)
  ·replace hM := M.e_t hM c164z
   simp only [qz1, qz2, qz3, qz4, qz5, qz6, ne_eq, qz7] at c164z
   refine W.skip <| W.seq <| W.block <| sQ rfl ?_
   obtain ⟨sd165z, hM⟩ := M.e_gd hM
   refine s_val (x_ix (a := u19z) (b := I (s6 : Int)) (v := vat u19z 1 (Int.toNat (s6 : Int))) rfl rfl (Sl.ix (α := Int) T34.und T34.size hs20z (by omega) (by omega))) <| s_val (x_ld (p := vat u19z 1 (Int.toNat (s6 : Int))) (v := I (l.getD s6 0)) rfl (ld_sc Sc3 (At.mono (Int_at hs20z (i := (s6 : Int)) (by omega) (by omega)) (roLe _ (H.get (k := 4) rfl))))) <| sA (I (l.getD s6 0)) rfl <| s_nil <| sQ rfl <| sM (B r0) rfl <| sM (B r0) rfl <| g_val r0 (gy_t rfl) (fun hg => x_ld (p := Pz b_8) (v := v_l2) rfl (ldb_sc Sc34 (H.blk (k := 1) rfl) rfl)) <| g_val r0 (gy_t rfl) (fun hg => x_mv (v := I (l.getD s6 0)) rfl) ?_
   refine t_gcall r0 (gy_t rfl) cf45 (B (l2.contains (l.getD s6 0))) (fun _ => [v_l2, I (l.getD s6 0)]) (fun hg => lst2 (gd_of (c := r0) hg (v_l2)) (gd_of (c := r0) hg (I (l.getD s6 0)))) H (fun hg => Ret.mono (contains_int (l.getD s6 0) _ ((ownSl (H.get (k := 0) rfl)).mono (ownLe _ (H.get (k := 0) rfl)))) fun v_ w_ ⟨hv_, hx_⟩ => ⟨hv_, H.ext hx_⟩) ?_
   intro w166z H
   refine g_val r0 (gy_t rfl) (fun hg => x_not (b := l2.contains (l.getD s6 0)) (gd_of (c := r0) hg (B (l2.contains (l.getD s6 0))))) <| s_val (x_pand (b := r0) (r := !(l2.contains (l.getD s6 0))) rfl (fun hb => gd_of (c := r0) (by first | exact hb | (rw [hb]; rfl) | simp_all) (B (!(l2.contains (l.getD s6 0))))) rfl) <| s_nil ?_
   refine W.cond (r0 && (!(l2.contains (l.getD s6 0)))) rfl (fun c167z => ?_) (fun c167z => ?_)
   ·replace hM := M.e_t hM c167z
    refine sQ rfl <| sA (B false) rfl <| s_nil ?_
    refine W.ret ?_
    have hX168z := M.e_inr hM hN163z
    subst hX168z
    replace hM := hk156z
    try dsimp only at hM
    have hX169z := M.e_inr hM hN36z
    subst hX169z
    replace hM := hk29z
    try dsimp only at hM
    have hr_ := M.e_pure hM
    exact ⟨_, resE_tmp rfl, ⟨false, hr_, rfl, (H.pick [] (by decide) rfl)⟩⟩
   replace hM := M.e_f hM c167z
   refine W.skip <| W.region rfl <| sR (s6 : Int) 1 ((s6 : Int) + 1) rfl rfl rfl (by omega) <| sM (I ((s6 : Int) + 1)) rfl <| s_nil ?_
   exact ⟨m160z, lt161z, s6 + 1, _, upds_of _ _ ⟨rfl, rfl, rfl, rfl, rfl, rfl, rfl, rfl, rfl, rfl, rfl, trivial⟩, M.e_inl hM hN163z, H⟩
  replace hM := M.e_f hM c164z
  simp only [qz1, qz2, qz3, qz4, qz5, qz6, ne_eq, qz7] at c164z
  refine W.exit ?_
  have hX170z := M.e_inr hM hN163z
  subst hX170z
  replace hM := hk156z
  try dsimp only at hM
  refine W.region rfl <| sR (s9 : Int) 1 ((s9 : Int) + 1) rfl rfl rfl (by omega) <| sM (I ((s9 : Int) + 1)) rfl <| s_nil ?_
  exact ⟨m33z, lt34z, s, s2, s9 + 1, l5, v_l5, rw_l5, B_l5, _, upds_of _ _ ⟨rfl, rfl, rfl, rfl, rfl, rfl, trivial⟩, M.e_inl hM hN36z, (H.pick [2, 3, 4, 5, 6, 7, 8, 9] (by decide) rfl), hr_l5⟩
 replace hM := M.e_f hM c37z
 simp only [qz1, qz2, qz3, qz4, qz5, qz6, ne_eq, qz7] at c37z
 refine W.exit ?_
 have hX171z := M.e_inr hM hN36z
 subst hX171z
 replace hM := hk29z
 try dsimp only at hM
 refine sQ rfl <| sM (Pz nb0_2) rfl <| sM u19z rfl ?_
 have hl172z := (hs20z).len_le
 refine s_val (x_lenS T34.und rfl hs20z) ?_
 obtain ⟨r174z, hx173z, hM⟩ := M.e_bind hM
 refine s_call cf44 [Pz nb0_2, I (l.length : Int)] rfl (nilometerkit_Stream_Next_ok tries s7 s8 (l.length : Int) (hC_tries.app _) hs_tries hx173z _ (St.give (L := [cBlk nb0_2 [v_tries, I s7, I s8] 158, cOwn (α := Raw 0) 34 v_l5 rw_l5, cRo B_l5, cRo Bs_7, cOwn (α := Int) 3 u0_6 r4, cBlk nb0_1 [v_numbers, I q12, I q22] 158, cOwn (α := Raw 2) 60 u0_3 rr1_4, cRo Bs2_5]) (A := [cBlk nb0_2 [v_tries, I s7, I s8] 158]) (T := [cOwn (α := Raw 0) 34 v_l5 rw_l5, cRo B_l5, cRo Bs_7, cOwn (α := Int) 3 u0_6 r4, cBlk nb0_1 [v_numbers, I q12, I q22] 158, cOwn (α := Raw 2) 60 u0_3 rr1_4, cRo Bs2_5]) (H.pick [7, 0, 1, 2, 3, 4, 5, 6] (by decide) rfl) rfl)) ?_
 rintro vq w175z ⟨r57, q152, q252, hr176z, hvq, H2_⟩
 subst hr176z
 subst vq
 try dsimp only at hM
 replace H : St w w175z [cBlk nb0_2 [v_tries, I q152, I q252] 158, cOwn (α := Raw 0) 34 v_l5 rw_l5, cRo B_l5, cRo Bs_7, cOwn (α := Int) 3 u0_6 r4, cBlk nb0_1 [v_numbers, I q12, I q22] 158, cOwn (α := Raw 2) 60 u0_3 rr1_4, cRo Bs2_5] R := H.pick [7, 0, 1, 2, 3, 4, 5, 6] (by decide) rfl |>.back H2_ rfl
 clear H2_
 refine sA (I r57) rfl <| s_nil <| sQ rfl <| sM u0_3 rfl <| sM u0_6 rfl <| sM u19z rfl ?_
 obtain ⟨sd177z, hM⟩ := M.e_gd hM
 refine s_call cf31 [u19z] rfl (copy_int _ (hs20z.mono (roLe _ (H.get (k := 3) rfl))) (by omega)) ?_
 rintro v179z w178z ⟨ho_, hx_⟩
 replace H : St w w178z [cOwn (α := Int) 3 v179z l, cBlk nb0_2 [v_tries, I q152, I q252] 158, cOwn (α := Raw 0) 34 v_l5 rw_l5, cRo B_l5, cRo Bs_7, cOwn (α := Int) 3 u0_6 r4, cBlk nb0_1 [v_numbers, I q12, I q22] 158, cOwn (α := Raw 2) 60 u0_3 rr1_4, cRo Bs2_5] R := H.ownOf hx_ ho_
 clear hx_ ho_
 refine sM (I r57) rfl <| sM (I r57) rfl ?_
 obtain ⟨sd180z, hM⟩ := M.e_gd hM
 refine sR r57 1 (r57 + 1) rfl rfl rfl (by omega) ?_
 obtain ⟨sd181z, hM⟩ := M.e_gd hM
 refine s_call cf50 [v179z, I r57, I (r57 + 1)] rfl (delete_any (H.get (k := 0) rfl) (by omega) (by omega) (by omega)) ?_
 rintro v182z w183z ⟨ho_, hg_, hu_⟩
 replace H : St w w183z [cOwn (α := Int) 3 v182z (l.take (Int.toNat r57) ++ l.drop (Int.toNat (r57 + 1))), cBlk nb0_2 [v_tries, I q152, I q252] 158, cOwn (α := Raw 0) 34 v_l5 rw_l5, cRo B_l5, cRo Bs_7, cOwn (α := Int) 3 u0_6 r4, cBlk nb0_1 [v_numbers, I q12, I q22] 158, cOwn (α := Raw 2) 60 u0_3 rr1_4, cRo Bs2_5] R := H.own (k := 0) rfl ho_ hg_ (fun b_ _ h_ => by rw [hu_]; exact h_) rfl
 clear ho_ hg_ hu_
 obtain ⟨r185z, hx184z, hM⟩ := M.e_bind hM
 refine s_call cf34 [u0_3, u0_6, v182z] rfl (notes_Fences_ok r3 r4 (l.take (Int.toNat r57) ++ l.drop (Int.toNat (r57 + 1))) (Reads.sup (Reads.of (k := 7) rfl ownLe) (Reads.of (k := 8) rfl roLe)) (rowSl rfl (H.get (k := 7) rfl) (roLe _ (H.get (k := 8) rfl)) hf13z) (Reads.of (k := 5) rfl ownLe) (ownSl (H.get (k := 5) rfl)) (Reads.of (k := 0) rfl ownLe) (ownSl (H.get (k := 0) rfl)) hx184z _ (St.give (T := [cOwn (α := Int) 3 v182z (l.take (Int.toNat r57) ++ l.drop (Int.toNat (r57 + 1))), cBlk nb0_2 [v_tries, I q152, I q252] 158, cOwn (α := Raw 0) 34 v_l5 rw_l5, cRo B_l5, cRo Bs_7, cOwn (α := Int) 3 u0_6 r4, cBlk nb0_1 [v_numbers, I q12, I q22] 158, cOwn (α := Raw 2) 60 u0_3 rr1_4, cRo Bs2_5]) H rfl)) ?_
 rintro vq w186z ⟨r02, r111, hr187z, hvq, H2_⟩
 subst hr187z
 subst vq
 try dsimp only at hM
 replace H : St w w186z [cOwn (α := Int) 3 v182z (l.take (Int.toNat r57) ++ l.drop (Int.toNat (r57 + 1))), cBlk nb0_2 [v_tries, I q152, I q252] 158, cOwn (α := Raw 0) 34 v_l5 rw_l5, cRo B_l5, cRo Bs_7, cOwn (α := Int) 3 u0_6 r4, cBlk nb0_1 [v_numbers, I q12, I q22] 158, cOwn (α := Raw 2) 60 u0_3 rr1_4, cRo Bs2_5] R := H.back H2_ rfl
 clear H2_
 refine sM (.tuple #[B r02, I r111]) rfl <| sX [B r02, I r111] (B r02) rfl rfl <| sX [B r02, I r111] (I r111) rfl rfl <| sA (B r02) rfl <| sA (I r111) rfl <| s_nil <| W.seq <| sQ rfl <| sM (I r111) rfl <| sC r111 0 (r111 != 0) rfl rfl rfl <| sM (B (r111 != 0)) rfl ?_
 refine g_val (!(r111 != 0)) (gy_f rfl) (fun hg => x_mv (v := B r02) rfl) <| s_val (x_por (b := r111 != 0) (r := r02) rfl rfl (fun hb => gd_of (c := !(r111 != 0)) (by first | exact hb | (rw [hb]; rfl) | simp_all) (B r02))) <| s_nil ?_
 refine W.cond ((r111 != 0) || r02) rfl (fun c188z => ?_) (fun c188z => ?_)
 ·replace hM := M.e_t hM c188z
  refine sQ rfl <| sA (B false) rfl <| s_nil ?_
  refine W.ret ?_
  have hr_ := M.e_pure hM
  exact ⟨_, resE_tmp rfl, ⟨false, hr_, rfl, (H.pick [] (by decide) rfl)⟩⟩
 replace hM := M.e_f hM c188z
 refine W.skip <| W.seq <| sQ rfl <| sM v_l5 rfl ?_
 have hl189z := ((rowSl rfl (H.get (k := 2) rfl) (roLe _ (H.get (k := 3) rfl)) hr_l5)).len_le
 refine s_val (x_lenS T73.und rfl (rowSl rfl (H.get (k := 2) rfl) (roLe _ (H.get (k := 3) rfl)) hr_l5)) <| sC (l5.length : Int) 1 (decide (1 < (l5.length : Int))) rfl rfl rfl <| s_nil ?_
 refine W.cond (decide (1 < (l5.length : Int))) rfl (fun c190z => ?_) (fun c190z => ?_)
 ·replace hM := M.e_t hM c190z
  simp only [qz1, qz2, qz3, qz4, qz5, qz6, ne_eq, qz7] at c190z
  refine sQ rfl <| sA (.slice none 0 0) rfl <| sA (.slice none 0 0) rfl <| s_nil <| W.seq <| sQ rfl <| sM u0_3 rfl ?_
  have hl191z := ((rowSl rfl (H.get (k := 7) rfl) (roLe _ (H.get (k := 8) rfl)) hf13z)).len_le
  refine s_val (x_lenS T22.und rfl (rowSl rfl (H.get (k := 7) rfl) (roLe _ (H.get (k := 8) rfl)) hf13z)) <| sM (I 0) rfl <| s_nil <| W.block ?_
  replace H : St w w186z [cOwn (α := Int) 3 (.slice none 0 0) ([]), cOwn (α := Int) 3 v182z (l.take (Int.toNat r57) ++ l.drop (Int.toNat (r57 + 1))), cBlk nb0_2 [v_tries, I q152, I q252] 158, cOwn (α := Raw 0) 34 v_l5 rw_l5, cRo B_l5, cRo Bs_7, cOwn (α := Int) 3 u0_6 r4, cBlk nb0_1 [v_numbers, I q12, I q22] 158, cOwn (α := Raw 2) 60 u0_3 rr1_4, cRo Bs2_5] R := H.nilOwn (α := Int) 3
  replace H : St w w186z [cOwn (α := Int) 3 (.slice none 0 0) ([]), cOwn (α := Int) 3 (.slice none 0 0) ([]), cOwn (α := Int) 3 v182z (l.take (Int.toNat r57) ++ l.drop (Int.toNat (r57 + 1))), cBlk nb0_2 [v_tries, I q152, I q252] 158, cOwn (α := Raw 0) 34 v_l5 rw_l5, cRo B_l5, cRo Bs_7, cOwn (α := Int) 3 u0_6 r4, cBlk nb0_1 [v_numbers, I q12, I q22] 158, cOwn (α := Raw 2) 60 u0_3 rr1_4, cRo Bs2_5] R := H.nilOwn (α := Int) 3
  obtain ⟨ex192z, hi193z, hk194z⟩ := M.e_bind hM
  obtain ⟨m0_, hi193z⟩ := M.e_iter hi193z
  refine W.loop (fun m σ W => ∃ (s14 : Nat) (l9 : List Int) (l10 : List Int) (v_l9 : Value) (v_l10 : Value) (ρ : Env), σ = upds ρ [(7, u0_3), (8, u0_6), (9, u19z), (11, v_l5), (20, v_l9), (21, v_l10), (143, I (r3.length : Int)), (144, I (s14 : Int))] ∧ M.iterN (m_nilometerlaw13_NotesFenced_b10 r3 l5) m (s14, l9, l10) = some ex192z ∧ St w W [cOwn (α := Int) 3 v_l10 l10, cOwn (α := Int) 3 v_l9 l9, cOwn (α := Int) 3 v182z (l.take (Int.toNat r57) ++ l.drop (Int.toNat (r57 + 1))), cBlk nb0_2 [v_tries, I q152, I q252] 158, cOwn (α := Raw 0) 34 v_l5 rw_l5, cRo B_l5, cRo Bs_7, cOwn (α := Int) 3 u0_6 r4, cBlk nb0_1 [v_numbers, I q12, I q22] 158, cOwn (α := Raw 2) 60 u0_3 rr1_4, cRo Bs2_5] R) ?_ ?_
  ·exact ⟨_, 0, [], [], (.slice none 0 0), (.slice none 0 0), _, upds_of _ _ ⟨rfl, rfl, rfl, rfl, rfl, rfl, rfl, rfl, trivial⟩, hi193z, H⟩
  rintro m197z σ w195z ⟨s14, l9, l10, v_l9, v_l10, ρ, rfl, hI196z, H⟩
  obtain ⟨m198z, lt199z, x200z, hM, hN201z⟩ := M.e_iterN hI196z
  simp only [m_nilometerlaw13_NotesFenced_b10] at hM
  clear hI196z
  refine sQ rfl <| sC (s14 : Int) (r3.length : Int) (decide ((s14 : Int) < (r3.length : Int))) rfl rfl rfl <| s_nil <| W.seq ?_
  refine W.cond (decide ((s14 : Int) < (r3.length : Int))) rfl (fun c202z => ?_) (fun c202z => ?_)
  ·replace hM := M.e_t hM c202z
   simp only [qz1, qz2, qz3, qz4, qz5, qz6, ne_eq, qz7] at c202z
   refine W.skip <| W.seq <| W.block <| sQ rfl <| sM (I (s14 : Int)) rfl <| sA (I (s14 : Int)) rfl <| s_nil <| W.seq ?_
   refine W.draw (fun W => St w W [cOwn (α := Int) 3 v_l10 l10, cOwn (α := Int) 3 v_l9 l9, cOwn (α := Int) 3 v182z (l.take (Int.toNat r57) ++ l.drop (Int.toNat (r57 + 1))), cBlk nb0_2 [v_tries, I q152, I q252] 158, cOwn (α := Raw 0) 34 v_l5 rw_l5, cRo B_l5, cRo Bs_7, cOwn (α := Int) 3 u0_6 r4, cBlk nb0_1 [v_numbers, I q12, I q22] 158, cOwn (α := Raw 2) 60 u0_3 rr1_4, cRo Bs2_5] R) [(0, true), (1, true), (2, true), (3, true), (5, true), (6, true), (7, true), (8, true), (4, false), (9, false), (10, true), (11, true)] mixed (by decide +kernel) rfl ?_
   intro w203z hx_
   replace H : St w w203z [cOwn (α := Int) 3 v_l10 l10, cOwn (α := Int) 3 v_l9 l9, cOwn (α := Int) 3 v182z (l.take (Int.toNat r57) ++ l.drop (Int.toNat (r57 + 1))), cBlk nb0_2 [v_tries, I q152, I q252] 158, cOwn (α := Raw 0) 34 v_l5 rw_l5, cRo B_l5, cRo Bs_7, cOwn (α := Int) 3 u0_6 r4, cBlk nb0_1 [v_numbers, I q12, I q22] 158, cOwn (α := Raw 2) 60 u0_3 rr1_4, cRo Bs2_5] R := H.ext hx_
   clear hx_
   refine ⟨(H.pick [0, 1, 2, 3, 4, 5, 6, 7, 8, 9, 10] (by decide) rfl), ?_⟩
   refine d_q rfl (fun w' H => x_mv (v := v_l5) rfl) ?_
   obtain ⟨sd204z, hM⟩ := M.e_gd hM
   refine d_q rfl (fun w' H => x_ix (a := v_l5) (b := I 0) (v := vat v_l5 1 (Int.toNat 0)) rfl rfl (Sl.ix (α := List Int) T73.und T73.size (rowSl rfl (H.get (k := 4) rfl) (roLe _ (H.get (k := 5) rfl)) hr_l5) (by omega) (by omega))) ?_
   obtain ⟨u205z, ha_u205z, hs206z⟩ := List_at (rowSl rfl (H.get (k := 4) rfl) (roLe _ (H.get (k := 5) rfl)) hr_l5) (i := 0) (by omega) (by omega)
   replace hs206z : Sl _ u205z (l5.getD 0 ([])) := hs206z
   have hl_hs206z := hs206z.len_le
   refine d_q rfl (fun w' H => x_ld (p := vat v_l5 1 (Int.toNat 0)) (v := u205z) rfl (ld_sc Sc34 (At.mono (ha_u205z) (Cells.sup_le (ownLe _ (H.get (k := 4) rfl)) (roLe _ (H.get (k := 5) rfl)))))) ?_
   refine d_q rfl (fun w' H => x_mv (v := I (s14 : Int)) rfl) ?_
   refine d_q rfl (fun w' H => x_mv (v := v_l5) rfl) ?_
   refine d_q rfl (fun w' H => x_ix (a := v_l5) (b := I 1) (v := vat v_l5 1 (Int.toNat 1)) rfl rfl (Sl.ix (α := List Int) T73.und T73.size (rowSl rfl (H.get (k := 4) rfl) (roLe _ (H.get (k := 5) rfl)) hr_l5) (by omega) (by omega))) ?_
   obtain ⟨u207z, ha_u207z, hs208z⟩ := List_at (rowSl rfl (H.get (k := 4) rfl) (roLe _ (H.get (k := 5) rfl)) hr_l5) (i := 1) (by omega) (by omega)
   replace hs208z : Sl _ u207z (l5.getD 1 ([])) := hs208z
   have hl_hs208z := hs208z.len_le
   refine d_q rfl (fun w' H => x_ld (p := vat v_l5 1 (Int.toNat 1)) (v := u207z) rfl (ld_sc Sc34 (At.mono (ha_u207z) (Cells.sup_le (ownLe _ (H.get (k := 4) rfl)) (roLe _ (H.get (k := 5) rfl)))))) ?_
   refine d_q rfl (fun w' H => x_mv (v := I (s14 : Int)) rfl) ?_
   refine d_l rfl ?_
   refine s_call cf45 [u205z, I (s14 : Int)] rfl (contains_int (s14 : Int) _ (hs206z.mono (Cells.sup_le (ownLe _ (H.get (k := 4) rfl)) (roLe _ (H.get (k := 5) rfl))))) ?_
   rintro _ w209z ⟨rfl, hx_⟩
   replace H : St w w209z [cOwn (α := Int) 3 v_l10 l10, cOwn (α := Int) 3 v_l9 l9, cOwn (α := Int) 3 v182z (l.take (Int.toNat r57) ++ l.drop (Int.toNat (r57 + 1))), cBlk nb0_2 [v_tries, I q152, I q252] 158, cOwn (α := Raw 0) 34 v_l5 rw_l5, cRo B_l5, cRo Bs_7, cOwn (α := Int) 3 u0_6 r4, cBlk nb0_1 [v_numbers, I q12, I q22] 158, cOwn (α := Raw 2) 60 u0_3 rr1_4, cRo Bs2_5] R := H.ext hx_
   clear hx_
   refine s_nil ⟨(H.pick [0, 1, 2, 3, 4, 5, 6, 7, 8, 9, 10] (by decide) rfl), ?_⟩
   refine d_l rfl ?_
   refine s_call cf45 [u207z, I (s14 : Int)] rfl (contains_int (s14 : Int) _ (hs208z.mono (Cells.sup_le (ownLe _ (H.get (k := 4) rfl)) (roLe _ (H.get (k := 5) rfl))))) ?_
   rintro _ w210z ⟨rfl, hx_⟩
   replace H : St w w210z [cOwn (α := Int) 3 v_l10 l10, cOwn (α := Int) 3 v_l9 l9, cOwn (α := Int) 3 v182z (l.take (Int.toNat r57) ++ l.drop (Int.toNat (r57 + 1))), cBlk nb0_2 [v_tries, I q152, I q252] 158, cOwn (α := Raw 0) 34 v_l5 rw_l5, cRo B_l5, cRo Bs_7, cOwn (α := Int) 3 u0_6 r4, cBlk nb0_1 [v_numbers, I q12, I q22] 158, cOwn (α := Raw 2) 60 u0_3 rr1_4, cRo Bs2_5] R := H.ext hx_
   clear hx_
   refine s_nil ⟨(H.pick [0, 1, 2, 3, 4, 5, 6, 7, 8, 9, 10] (by decide) rfl), ?_⟩
   refine d_q rfl (fun w' H => x_as (v := B ((l5.getD 0 ([])).contains (s14 : Int))) rfl) ?_
   refine d_q rfl (fun w' H => x_as (v := B ((l5.getD 1 ([])).contains (s14 : Int))) rfl) ?_
   refine d_nil ?_
   refine W.seq <| sQ rfl <| sM (B ((l5.getD 0 ([])).contains (s14 : Int))) rfl <| sM (B ((l5.getD 0 ([])).contains (s14 : Int))) rfl <| g_val ((l5.getD 0 ([])).contains (s14 : Int)) (gy_t rfl) (fun hg => x_mv (v := B ((l5.getD 1 ([])).contains (s14 : Int))) rfl) <| s_val (x_pand (b := (l5.getD 0 ([])).contains (s14 : Int)) (r := (l5.getD 1 ([])).contains (s14 : Int)) rfl (fun hb => gd_of (c := (l5.getD 0 ([])).contains (s14 : Int)) (by first | exact hb | (rw [hb]; rfl) | simp_all) (B ((l5.getD 1 ([])).contains (s14 : Int)))) rfl) <| s_nil ?_
   refine W.cond (((l5.getD 0 ([])).contains (s14 : Int)) && ((l5.getD 1 ([])).contains (s14 : Int))) rfl (fun c211z => ?_) (fun c211z => ?_)
   ·replace hM := M.e_t hM c211z
    refine W.region rfl <| sM v_l9 rfl <| sM (I (s14 : Int)) rfl ?_
    refine t_bs (α := Int) T34 [I (s14 : Int)] [(s14 : Int)] H rfl (.cons rfl (Flat.rep_enc _ (s14 : Int)) <| .nil) rfl rfl rfl ?_
    intro v212z w213z H
    obtain ⟨sd214z, hM⟩ := M.e_gd hM
    refine t_app (α := Int) (k := 2) (l := l9) (l2 := [(s14 : Int)]) (l' := l9 ++ ([(s14 : Int)])) (vy := v212z) T34 rfl H rfl rfl rfl (ownSl (H.get (k := 0) rfl)) (ownLe _ (H.get (k := 0) rfl)) (rfl) (by first | omega | (simp only [List.length_nil] at *; omega)) ?_
    intro v215z w216z H
    replace H : St w w216z [cOwn (α := Int) 3 v212z ([(s14 : Int)]), cOwn (α := Int) 3 v_l10 l10, cOwn (α := Int) 3 v215z (l9 ++ ([(s14 : Int)])), cOwn (α := Int) 3 v182z (l.take (Int.toNat r57) ++ l.drop (Int.toNat (r57 + 1))), cBlk nb0_2 [v_tries, I q152, I q252] 158, cOwn (α := Raw 0) 34 v_l5 rw_l5, cRo B_l5, cRo Bs_7, cOwn (α := Int) 3 u0_6 r4, cBlk nb0_1 [v_numbers, I q12, I q22] 158, cOwn (α := Raw 2) 60 u0_3 rr1_4, cRo Bs2_5] R := H
    refine sA v215z rfl <| s_nil <| sQ rfl <| sM (B ((l5.getD 0 ([])).contains (s14 : Int))) rfl <| sM (B ((l5.getD 0 ([])).contains (s14 : Int))) rfl <| g_val (!((l5.getD 0 ([])).contains (s14 : Int))) (gy_f rfl) (fun hg => x_mv (v := B ((l5.getD 1 ([])).contains (s14 : Int))) rfl) <| s_val (x_por (b := (l5.getD 0 ([])).contains (s14 : Int)) (r := (l5.getD 1 ([])).contains (s14 : Int)) rfl rfl (fun hb => gd_of (c := !((l5.getD 0 ([])).contains (s14 : Int))) (by first | exact hb | (rw [hb]; rfl) | simp_all) (B ((l5.getD 1 ([])).contains (s14 : Int))))) <| s_nil ?_
    refine W.cond (((l5.getD 0 ([])).contains (s14 : Int)) || ((l5.getD 1 ([])).contains (s14 : Int))) rfl (fun c217z => ?_) (fun c217z => ?_)
    ·replace hM := M.e_t hM c217z
     refine W.region rfl <| sM v_l10 rfl <| sM (I (s14 : Int)) rfl ?_
     refine t_bs (α := Int) T34 [I (s14 : Int)] [(s14 : Int)] H rfl (.cons rfl (Flat.rep_enc _ (s14 : Int)) <| .nil) rfl rfl rfl ?_
     intro v218z w219z H
     obtain ⟨sd220z, hM⟩ := M.e_gd hM
     refine t_app (α := Int) (k := 2) (l := l10) (l2 := [(s14 : Int)]) (l' := l10 ++ ([(s14 : Int)])) (vy := v218z) T34 rfl H rfl rfl rfl (ownSl (H.get (k := 0) rfl)) (ownLe _ (H.get (k := 0) rfl)) (rfl) (by first | omega | (simp only [List.length_nil] at *; omega)) ?_
     intro v221z w222z H
     replace H : St w w222z [cOwn (α := Int) 3 v218z ([(s14 : Int)]), cOwn (α := Int) 3 v212z ([(s14 : Int)]), cOwn (α := Int) 3 v221z (l10 ++ ([(s14 : Int)])), cOwn (α := Int) 3 v215z (l9 ++ ([(s14 : Int)])), cOwn (α := Int) 3 v182z (l.take (Int.toNat r57) ++ l.drop (Int.toNat (r57 + 1))), cBlk nb0_2 [v_tries, I q152, I q252] 158, cOwn (α := Raw 0) 34 v_l5 rw_l5, cRo B_l5, cRo Bs_7, cOwn (α := Int) 3 u0_6 r4, cBlk nb0_1 [v_numbers, I q12, I q22] 158, cOwn (α := Raw 2) 60 u0_3 rr1_4, cRo Bs2_5] R := H
     refine sA v221z rfl <| s_nil <| W.region rfl <| sR (s14 : Int) 1 ((s14 : Int) + 1) rfl rfl rfl (by omega) <| sM (I ((s14 : Int) + 1)) rfl <| s_nil ?_
     exact ⟨m198z, lt199z, s14 + 1, l9 ++ ([(s14 : Int)]), l10 ++ ([(s14 : Int)]), v215z, v221z, _, upds_of _ _ ⟨rfl, rfl, rfl, rfl, rfl, rfl, rfl, rfl, trivial⟩, M.e_inl hM hN201z, (H.pick [2, 3, 4, 5, 6, 7, 8, 9, 10, 11, 12] (by decide) rfl)⟩
    replace hM := M.e_f hM c217z
    refine W.skip <| W.region rfl <| sR (s14 : Int) 1 ((s14 : Int) + 1) rfl rfl rfl (by omega) <| sM (I ((s14 : Int) + 1)) rfl <| s_nil ?_
    exact ⟨m198z, lt199z, s14 + 1, l9 ++ ([(s14 : Int)]), l10, v215z, v_l10, _, upds_of _ _ ⟨rfl, rfl, rfl, rfl, rfl, rfl, rfl, rfl, trivial⟩, M.e_inl hM hN201z, (H.pick [1, 2, 3, 4, 5, 6, 7, 8, 9, 10, 11] (by decide) rfl)⟩
   replace hM := M.e_f hM c211z
   refine W.skip <| sQ rfl <| sM (B ((l5.getD 0 ([])).contains (s14 : Int))) rfl <| sM (B ((l5.getD 0 ([])).contains (s14 : Int))) rfl <| g_val (!((l5.getD 0 ([])).contains (s14 : Int))) (gy_f rfl) (fun hg => x_mv (v := B ((l5.getD 1 ([])).contains (s14 : Int))) rfl) <| s_val (x_por (b := (l5.getD 0 ([])).contains (s14 : Int)) (r := (l5.getD 1 ([])).contains (s14 : Int)) rfl rfl (fun hb => gd_of (c := !((l5.getD 0 ([])).contains (s14 : Int))) (by first | exact hb | (rw [hb]; rfl) | simp_all) (B ((l5.getD 1 ([])).contains (s14 : Int))))) <| s_nil ?_
   refine W.cond (((l5.getD 0 ([])).contains (s14 : Int)) || ((l5.getD 1 ([])).contains (s14 : Int))) rfl (fun c223z => ?_) (fun c223z => ?_)
   ·replace hM := M.e_t hM c223z
    refine W.region rfl <| sM v_l10 rfl <| sM (I (s14 : Int)) rfl ?_
    refine t_bs (α := Int) T34 [I (s14 : Int)] [(s14 : Int)] H rfl (.cons rfl (Flat.rep_enc _ (s14 : Int)) <| .nil) rfl rfl rfl ?_
    intro v224z w225z H
    obtain ⟨sd226z, hM⟩ := M.e_gd hM
    refine t_app (α := Int) (k := 1) (l := l10) (l2 := [(s14 : Int)]) (l' := l10 ++ ([(s14 : Int)])) (vy := v224z) T34 rfl H rfl rfl rfl (ownSl (H.get (k := 0) rfl)) (ownLe _ (H.get (k := 0) rfl)) (rfl) (by first | omega | (simp only [List.length_nil] at *; omega)) ?_
    intro v227z w228z H
    replace H : St w w228z [cOwn (α := Int) 3 v224z ([(s14 : Int)]), cOwn (α := Int) 3 v227z (l10 ++ ([(s14 : Int)])), cOwn (α := Int) 3 v_l9 l9, cOwn (α := Int) 3 v182z (l.take (Int.toNat r57) ++ l.drop (Int.toNat (r57 + 1))), cBlk nb0_2 [v_tries, I q152, I q252] 158, cOwn (α := Raw 0) 34 v_l5 rw_l5, cRo B_l5, cRo Bs_7, cOwn (α := Int) 3 u0_6 r4, cBlk nb0_1 [v_numbers, I q12, I q22] 158, cOwn (α := Raw 2) 60 u0_3 rr1_4, cRo Bs2_5] R := H
    refine sA v227z rfl <| s_nil <| W.region rfl <| sR (s14 : Int) 1 ((s14 : Int) + 1) rfl rfl rfl (by omega) <| sM (I ((s14 : Int) + 1)) rfl <| s_nil ?_
    exact ⟨m198z, lt199z, s14 + 1, l9, l10 ++ ([(s14 : Int)]), v_l9, v227z, _, upds_of _ _ ⟨rfl, rfl, rfl, rfl, rfl, rfl, rfl, rfl, trivial⟩, M.e_inl hM hN201z, (H.pick [1, 2, 3, 4, 5, 6, 7, 8, 9, 10, 11] (by decide) rfl)⟩
   replace hM := M.e_f hM c223z
   refine W.skip <| W.region rfl <| sR (s14 : Int) 1 ((s14 : Int) + 1) rfl rfl rfl (by omega) <| sM (I ((s14 : Int) + 1)) rfl <| s_nil ?_
   exact ⟨m198z, lt199z, s14 + 1, l9, l10, v_l9, v_l10, _, upds_of _ _ ⟨rfl, rfl, rfl, rfl, rfl, rfl, rfl, rfl, trivial⟩, M.e_inl hM hN201z, H⟩
  replace hM := M.e_f hM c202z
  simp only [qz1, qz2, qz3, qz4, qz5, qz6, ne_eq, qz7] at c202z
  refine W.exit ?_
  have hX229z := M.e_inr hM hN201z
  subst hX229z
  replace hM := hk194z
  try dsimp only at hM
  refine sQ rfl <| sM u0_3 rfl <| sM u0_6 rfl <| sM v_l9 rfl ?_
  obtain ⟨r231z, hx230z, hM⟩ := M.e_bind hM
  refine s_call cf34 [u0_3, u0_6, v_l9] rfl (notes_Fences_ok r3 r4 l9 (Reads.sup (Reads.of (k := 9) rfl ownLe) (Reads.of (k := 10) rfl roLe)) (rowSl rfl (H.get (k := 9) rfl) (roLe _ (H.get (k := 10) rfl)) hf13z) (Reads.of (k := 7) rfl ownLe) (ownSl (H.get (k := 7) rfl)) (Reads.of (k := 1) rfl ownLe) (ownSl (H.get (k := 1) rfl)) hx230z _ (St.give (T := [cOwn (α := Int) 3 v_l10 l10, cOwn (α := Int) 3 v_l9 l9, cOwn (α := Int) 3 v182z (l.take (Int.toNat r57) ++ l.drop (Int.toNat (r57 + 1))), cBlk nb0_2 [v_tries, I q152, I q252] 158, cOwn (α := Raw 0) 34 v_l5 rw_l5, cRo B_l5, cRo Bs_7, cOwn (α := Int) 3 u0_6 r4, cBlk nb0_1 [v_numbers, I q12, I q22] 158, cOwn (α := Raw 2) 60 u0_3 rr1_4, cRo Bs2_5]) H rfl)) ?_
  rintro vq w232z ⟨r03, r112, hr233z, hvq, H2_⟩
  subst hr233z
  subst vq
  try dsimp only at hM
  replace H : St w w232z [cOwn (α := Int) 3 v_l10 l10, cOwn (α := Int) 3 v_l9 l9, cOwn (α := Int) 3 v182z (l.take (Int.toNat r57) ++ l.drop (Int.toNat (r57 + 1))), cBlk nb0_2 [v_tries, I q152, I q252] 158, cOwn (α := Raw 0) 34 v_l5 rw_l5, cRo B_l5, cRo Bs_7, cOwn (α := Int) 3 u0_6 r4, cBlk nb0_1 [v_numbers, I q12, I q22] 158, cOwn (α := Raw 2) 60 u0_3 rr1_4, cRo Bs2_5] R := H.back H2_ rfl
  clear H2_
  refine sM (.tuple #[B r03, I r112]) rfl <| sX [B r03, I r112] (B r03) rfl rfl <| sX [B r03, I r112] (I r112) rfl rfl <| sA (B r03) rfl <| sA (I r112) rfl <| s_nil <| sQ rfl <| sM u0_3 rfl <| sM u0_6 rfl <| sM v_l10 rfl ?_
  obtain ⟨r235z, hx234z, hM⟩ := M.e_bind hM
  refine s_call cf34 [u0_3, u0_6, v_l10] rfl (notes_Fences_ok r3 r4 l10 (Reads.sup (Reads.of (k := 9) rfl ownLe) (Reads.of (k := 10) rfl roLe)) (rowSl rfl (H.get (k := 9) rfl) (roLe _ (H.get (k := 10) rfl)) hf13z) (Reads.of (k := 7) rfl ownLe) (ownSl (H.get (k := 7) rfl)) (Reads.of (k := 0) rfl ownLe) (ownSl (H.get (k := 0) rfl)) hx234z _ (St.give (T := [cOwn (α := Int) 3 v_l10 l10, cOwn (α := Int) 3 v_l9 l9, cOwn (α := Int) 3 v182z (l.take (Int.toNat r57) ++ l.drop (Int.toNat (r57 + 1))), cBlk nb0_2 [v_tries, I q152, I q252] 158, cOwn (α := Raw 0) 34 v_l5 rw_l5, cRo B_l5, cRo Bs_7, cOwn (α := Int) 3 u0_6 r4, cBlk nb0_1 [v_numbers, I q12, I q22] 158, cOwn (α := Raw 2) 60 u0_3 rr1_4, cRo Bs2_5]) H rfl)) ?_
  rintro vq w236z ⟨r04, r113, hr237z, hvq, H2_⟩
  subst hr237z
  subst vq
  try dsimp only at hM
  replace H : St w w236z [cOwn (α := Int) 3 v_l10 l10, cOwn (α := Int) 3 v_l9 l9, cOwn (α := Int) 3 v182z (l.take (Int.toNat r57) ++ l.drop (Int.toNat (r57 + 1))), cBlk nb0_2 [v_tries, I q152, I q252] 158, cOwn (α := Raw 0) 34 v_l5 rw_l5, cRo B_l5, cRo Bs_7, cOwn (α := Int) 3 u0_6 r4, cBlk nb0_1 [v_numbers, I q12, I q22] 158, cOwn (α := Raw 2) 60 u0_3 rr1_4, cRo Bs2_5] R := H.back H2_ rfl
  clear H2_
  refine sM (.tuple #[B r04, I r113]) rfl <| sX [B r04, I r113] (B r04) rfl rfl <| sX [B r04, I r113] (I r113) rfl rfl <| sA (B r04) rfl <| sA (I r113) rfl <| s_nil <| sQ rfl <| sM (I r112) rfl <| sC r112 0 (r112 != 0) rfl rfl rfl <| sM (B (r112 != 0)) rfl <| g_val (!(r112 != 0)) (gy_f rfl) (fun hg => x_mv (v := I r113) rfl) ?_
  refine g_val (!(r112 != 0)) (gy_f rfl) (fun hg => x_cmp (kd := .i64) (a := r113) (b := 0) (r := r113 != 0) (gd_of (c := !(r112 != 0)) hg (I r113)) rfl rfl) <| s_val (x_por (b := r112 != 0) (r := r113 != 0) rfl rfl (fun hb => gd_of (c := !(r112 != 0)) (by first | exact hb | (rw [hb]; rfl) | simp_all) (B (r113 != 0)))) <| sM (B ((r112 != 0) || (r113 != 0))) rfl <| g_val (!((r112 != 0) || (r113 != 0))) (gy_f rfl) (fun hg => x_mv (v := B r03) rfl) <| g_val (!((r112 != 0) || (r113 != 0))) (gy_f rfl) (fun hg => x_not (b := r03) (gd_of (c := !((r112 != 0) || (r113 != 0))) hg (B r03))) <| s_val (x_por (b := ((r112 != 0) || (r113 != 0))) (r := !r03) rfl rfl (fun hb => gd_of (c := !((r112 != 0) || (r113 != 0))) (by first | exact hb | (rw [hb]; rfl) | simp_all) (B (!r03)))) <| sM (B (((r112 != 0) || (r113 != 0)) || (!r03))) rfl <| g_val (!(((r112 != 0) || (r113 != 0)) || (!r03))) (gy_f rfl) (fun hg => x_mv (v := B r04) rfl) <| g_val (!(((r112 != 0) || (r113 != 0)) || (!r03))) (gy_f rfl) (fun hg => x_not (b := r04) (gd_of (c := !(((r112 != 0) || (r113 != 0)) || (!r03))) hg (B r04))) <| s_val (x_por (b := (((r112 != 0) || (r113 != 0)) || (!r03))) (r := !r04) rfl rfl (fun hb => gd_of (c := !(((r112 != 0) || (r113 != 0)) || (!r03))) (by first | exact hb | (rw [hb]; rfl) | simp_all) (B (!r04)))) <| s_nil ?_
  refine W.cond ((((r112 != 0) || (r113 != 0)) || (!r03)) || (!r04)) rfl (fun c238z => ?_) (fun c238z => ?_)
  ·replace hM := M.e_t hM c238z
   refine sQ rfl <| sA (B false) rfl <| s_nil ?_
   refine W.ret ?_
   have hr_ := M.e_pure hM
   exact ⟨_, resE_tmp rfl, ⟨false, hr_, rfl, (H.pick [] (by decide) rfl)⟩⟩
  replace hM := M.e_f hM c238z
  refine W.skip <| sQ rfl <| sM u0_3 rfl <| sM u19z rfl ?_
  refine s_call cf31 [u19z] rfl (copy_int _ (hs20z.mono (roLe _ (H.get (k := 6) rfl))) (by omega)) ?_
  rintro v240z w239z ⟨ho_, hx_⟩
  replace H : St w w239z [cOwn (α := Int) 3 v240z l, cOwn (α := Int) 3 v_l10 l10, cOwn (α := Int) 3 v_l9 l9, cOwn (α := Int) 3 v182z (l.take (Int.toNat r57) ++ l.drop (Int.toNat (r57 + 1))), cBlk nb0_2 [v_tries, I q152, I q252] 158, cOwn (α := Raw 0) 34 v_l5 rw_l5, cRo B_l5, cRo Bs_7, cOwn (α := Int) 3 u0_6 r4, cBlk nb0_1 [v_numbers, I q12, I q22] 158, cOwn (α := Raw 2) 60 u0_3 rr1_4, cRo Bs2_5] R := H.ownOf hx_ ho_
  clear hx_ ho_
  obtain ⟨⟨l15, e2⟩, hx244z, hM⟩ := M.e_bind hM
  obtain ⟨hq245z, hq246z⟩ := Prod.mk.inj (M.e_pure hx244z)
  try dsimp only at hM
  refine s_call cf32 [u0_3, v240z] rfl (by have hc_ := (Stale_any _ ((rowSl rfl (H.get (k := 10) rfl) (roLe _ (H.get (k := 11) rfl)) hf13z).mono (Cells.sup_le (ownLe _ (H.get (k := 10) rfl)) (roLe _ (H.get (k := 11) rfl)))) ((ownSl (H.get (k := 0) rfl)).mono (ownLe _ (H.get (k := 0) rfl)))); rw [hq245z, hq246z] at hc_; exact hc_) ?_
  rintro _ w241z ⟨u242z, rfl, hs243z, hx_⟩
  obtain ⟨Bs_29, H, hs243z⟩ := H.fresh hx_ hs243z
  clear hx_
  have hl_hs243z := hs243z.len_le
  refine sM (.tuple #[u242z, I e2]) rfl <| sX [u242z, I e2] u242z rfl rfl <| sX [u242z, I e2] (I e2) rfl rfl <| sA u242z rfl <| sA (I e2) rfl <| s_nil <| W.seq <| sQ rfl <| sM (I e2) rfl <| sC e2 0 (e2 != 0) rfl rfl rfl <| sM (B (e2 != 0)) rfl ?_
  refine g_val (!(e2 != 0)) (gy_f rfl) (fun hg => x_mv (v := u242z) rfl) <| g_val (!(e2 != 0)) (gy_f rfl) (fun hg => x_mv (v := u19z) rfl) ?_
  refine t_gcall (!(e2 != 0)) (gy_f rfl) cf25 (B (decide (l15 = l))) (fun _ => [u242z, u19z]) (fun hg => lst2 (gd_of (c := !(e2 != 0)) hg (u242z)) (gd_of (c := !(e2 != 0)) hg (u19z))) H (fun hg => Ret.mono (same_int _ (hs243z.mono (roLe _ (H.get (k := 0) rfl))) (hs20z.mono (roLe _ (H.get (k := 8) rfl)))) fun v_ w_ ⟨hv_, hx_⟩ => ⟨hv_, H.ext hx_⟩) ?_
  intro w247z H
  refine g_val (!(e2 != 0)) (gy_f rfl) (fun hg => x_not (b := decide (l15 = l)) (gd_of (c := !(e2 != 0)) hg (B (decide (l15 = l))))) <| s_val (x_por (b := e2 != 0) (r := !(decide (l15 = l))) rfl rfl (fun hb => gd_of (c := !(e2 != 0)) (by first | exact hb | (rw [hb]; rfl) | simp_all) (B (!(decide (l15 = l)))))) <| s_nil ?_
  refine W.cond ((e2 != 0) || (!(decide (l15 = l)))) rfl (fun c248z => ?_) (fun c248z => ?_)
  ·replace hM := M.e_t hM c248z
   refine sQ rfl <| sA (B false) rfl <| s_nil ?_
   refine W.ret ?_
   have hr_ := M.e_pure hM
   exact ⟨_, resE_tmp rfl, ⟨false, hr_, rfl, (H.pick [] (by decide) rfl)⟩⟩
  replace hM := M.e_f hM c248z
  refine W.skip <| sQ rfl <| sM u0_3 rfl <| sM u0_6 rfl ?_
  obtain ⟨sd251z, hM⟩ := M.e_gd hM
  obtain ⟨u249z, hr_u249z, hs250z⟩ := sl_hi T34.und T34.size (ownSl (H.get (k := 9) rfl)) (j := 1) (by omega) (by omega)
  replace hs250z : Sl _ u249z (r4.take 1) := hs250z
  refine s_val (x_sl (v := u0_6) (u := u249z) (lo' := none) (hi' := some (I 1)) (mx' := none) rfl rfl rfl rfl (hr_u249z _)) ?_
  obtain ⟨⟨l16, e3⟩, hx255z, hM⟩ := M.e_bind hM
  obtain ⟨hq256z, hq257z⟩ := Prod.mk.inj (M.e_pure hx255z)
  try dsimp only at hM
  refine s_call cf32 [u0_3, u249z] rfl (by have hc_ := (Stale_any _ ((rowSl rfl (H.get (k := 11) rfl) (roLe _ (H.get (k := 12) rfl)) hf13z).mono (Cells.sup_le (ownLe _ (H.get (k := 11) rfl)) (roLe _ (H.get (k := 12) rfl)))) (hs250z.mono (ownLe _ (H.get (k := 9) rfl)))); rw [hq256z, hq257z] at hc_; exact hc_) ?_
  rintro _ w252z ⟨u253z, rfl, hs254z, hx_⟩
  obtain ⟨Bs_30, H, hs254z⟩ := H.fresh hx_ hs254z
  clear hx_
  have hl_hs254z := hs254z.len_le
  refine sM (.tuple #[u253z, I e3]) rfl <| sX [u253z, I e3] u253z rfl rfl <| sX [u253z, I e3] (I e3) rfl rfl <| sA u253z rfl <| sA (I e3) rfl <| s_nil <| W.seq <| sQ rfl <| sM (I e3) rfl <| sC e3 0 (e3 != 0) rfl rfl rfl <| s_nil ?_
  refine W.cond (e3 != 0) rfl (fun c258z => ?_) (fun c258z => ?_)
  ·replace hM := M.e_t hM c258z
   simp only [qz1, qz2, qz3, qz4, qz5, qz6, ne_eq, qz7] at c258z
   refine sQ rfl <| sA (B false) rfl <| s_nil ?_
   refine W.ret ?_
   have hr_ := M.e_pure hM
   exact ⟨_, resE_tmp rfl, ⟨false, hr_, rfl, (H.pick [] (by decide) rfl)⟩⟩
  replace hM := M.e_f hM c258z
  simp only [qz1, qz2, qz3, qz4, qz5, qz6, ne_eq, qz7] at c258z
  refine W.skip <| W.seq <| sQ rfl <| sM u253z rfl ?_
  have hl259z := (hs254z).len_le
  refine s_val (x_lenS T34.und rfl hs254z) <| sM (I 0) rfl <| s_nil <| W.block ?_
  obtain ⟨ex260z, hi261z, hk262z⟩ := M.e_bind hM
  obtain ⟨m0_, hi261z⟩ := M.e_iter hi261z
  refine W.loop (fun m σ W => ∃ (s15 : Nat) (ρ : Env), σ = upds ρ [(9, u19z), (226, u253z), (227, I (l16.length : Int)), (228, I (s15 : Int))] ∧ M.iterN (m_nilometerlaw13_NotesFenced_b11 l l16) m s15 = some ex260z ∧ St w W [cRo Bs_30, cRo Bs_29, cOwn (α := Int) 3 v240z l, cOwn (α := Int) 3 v_l10 l10, cOwn (α := Int) 3 v_l9 l9, cOwn (α := Int) 3 v182z (l.take (Int.toNat r57) ++ l.drop (Int.toNat (r57 + 1))), cBlk nb0_2 [v_tries, I q152, I q252] 158, cOwn (α := Raw 0) 34 v_l5 rw_l5, cRo B_l5, cRo Bs_7, cOwn (α := Int) 3 u0_6 r4, cBlk nb0_1 [v_numbers, I q12, I q22] 158, cOwn (α := Raw 2) 60 u0_3 rr1_4, cRo Bs2_5] R) ?_ ?_
  ·exact ⟨_, 0, _, upds_of _ _ ⟨rfl, rfl, rfl, rfl, trivial⟩, hi261z, H⟩
  rintro m265z σ w263z ⟨s15, ρ, rfl, hI264z, H⟩
  obtain ⟨m266z, lt267z, x268z, hM, hN269z⟩ := M.e_iterN hI264z
  simp only [m_nilometerlaw13_NotesFenced_b11] at hM
  clear hI264z
  refine sQ rfl <| sC (s15 : Int) (l16.length : Int) (decide ((s15 : Int) < (l16.length : Int))) rfl rfl rfl <| s_nil <| W.seq ?_
  refine W.cond (decide ((s15 : Int) < (l16.length : Int))) rfl (fun c270z => ?_) (fun c270z => ?_)
  ·replace hM := M.e_t hM c270z
   simp only [qz1, qz2, qz3, qz4, qz5, qz6, ne_eq, qz7] at c270z
   refine W.skip <| W.seq <| W.block <| sQ rfl ?_
   obtain ⟨sd271z, hM⟩ := M.e_gd hM
   refine s_val (x_ix (a := u253z) (b := I (s15 : Int)) (v := vat u253z 1 (Int.toNat (s15 : Int))) rfl rfl (Sl.ix (α := Int) T34.und T34.size hs254z (by omega) (by omega))) <| s_val (x_ld (p := vat u253z 1 (Int.toNat (s15 : Int))) (v := I (l16.getD s15 0)) rfl (ld_sc Sc3 (At.mono (Int_at hs254z (i := (s15 : Int)) (by omega) (by omega)) (roLe _ (H.get (k := 0) rfl))))) <| sA (I (l16.getD s15 0)) rfl <| s_nil <| sQ rfl <| sM u19z rfl <| sM (I (l16.getD s15 0)) rfl ?_
   refine s_call cf45 [u19z, I (l16.getD s15 0)] rfl (contains_int (l16.getD s15 0) _ (hs20z.mono (roLe _ (H.get (k := 9) rfl)))) ?_
   rintro _ w272z ⟨rfl, hx_⟩
   replace H : St w w272z [cRo Bs_30, cRo Bs_29, cOwn (α := Int) 3 v240z l, cOwn (α := Int) 3 v_l10 l10, cOwn (α := Int) 3 v_l9 l9, cOwn (α := Int) 3 v182z (l.take (Int.toNat r57) ++ l.drop (Int.toNat (r57 + 1))), cBlk nb0_2 [v_tries, I q152, I q252] 158, cOwn (α := Raw 0) 34 v_l5 rw_l5, cRo B_l5, cRo Bs_7, cOwn (α := Int) 3 u0_6 r4, cBlk nb0_1 [v_numbers, I q12, I q22] 158, cOwn (α := Raw 2) 60 u0_3 rr1_4, cRo Bs2_5] R := H.ext hx_
   clear hx_
   refine s_val (x_not (b := l.contains (l16.getD s15 0)) rfl) <| s_nil ?_
   refine W.cond (!(l.contains (l16.getD s15 0))) rfl (fun c273z => ?_) (fun c273z => ?_)
   ·replace hM := M.e_t hM c273z
    refine sQ rfl <| sA (B false) rfl <| s_nil ?_
    refine W.ret ?_
    have hX274z := M.e_inr hM hN269z
    subst hX274z
    replace hM := hk262z
    try dsimp only at hM
    have hr_ := M.e_pure hM
    exact ⟨_, resE_tmp rfl, ⟨false, hr_, rfl, (H.pick [] (by decide) rfl)⟩⟩
   replace hM := M.e_f hM c273z
   refine W.skip <| W.region rfl <| sR (s15 : Int) 1 ((s15 : Int) + 1) rfl rfl rfl (by omega) <| sM (I ((s15 : Int) + 1)) rfl <| s_nil ?_
   exact ⟨m266z, lt267z, s15 + 1, _, upds_of _ _ ⟨rfl, rfl, rfl, rfl, trivial⟩, M.e_inl hM hN269z, H⟩
  replace hM := M.e_f hM c270z
  simp only [qz1, qz2, qz3, qz4, qz5, qz6, ne_eq, qz7] at c270z
  refine W.exit ?_
  have hX275z := M.e_inr hM hN269z
  subst hX275z
  replace hM := hk262z
  try dsimp only at hM
  refine sQ rfl ?_
  obtain ⟨r277z, hx276z, hM⟩ := M.e_bind hM
  refine s_call cf17 [] rfl (nilometerlaw13_awake_ok hx276z _ (St.give (T := [cRo Bs_30, cRo Bs_29, cOwn (α := Int) 3 v240z l, cOwn (α := Int) 3 v_l10 l10, cOwn (α := Int) 3 v_l9 l9, cOwn (α := Int) 3 v182z (l.take (Int.toNat r57) ++ l.drop (Int.toNat (r57 + 1))), cBlk nb0_2 [v_tries, I q152, I q252] 158, cOwn (α := Raw 0) 34 v_l5 rw_l5, cRo B_l5, cRo Bs_7, cOwn (α := Int) 3 u0_6 r4, cBlk nb0_1 [v_numbers, I q12, I q22] 158, cOwn (α := Raw 2) 60 u0_3 rr1_4, cRo Bs2_5]) H rfl)) ?_
  rintro vq w278z ⟨r58, hr279z, hvq, H2_⟩
  subst hr279z
  subst vq
  try dsimp only at hM
  replace H : St w w278z [cRo Bs_30, cRo Bs_29, cOwn (α := Int) 3 v240z l, cOwn (α := Int) 3 v_l10 l10, cOwn (α := Int) 3 v_l9 l9, cOwn (α := Int) 3 v182z (l.take (Int.toNat r57) ++ l.drop (Int.toNat (r57 + 1))), cBlk nb0_2 [v_tries, I q152, I q252] 158, cOwn (α := Raw 0) 34 v_l5 rw_l5, cRo B_l5, cRo Bs_7, cOwn (α := Int) 3 u0_6 r4, cBlk nb0_1 [v_numbers, I q12, I q22] 158, cOwn (α := Raw 2) 60 u0_3 rr1_4, cRo Bs2_5] R := H.back H2_ rfl
  clear H2_
  refine sA (B r58) rfl <| s_nil ?_
  refine W.ret ?_
  have hr_ := M.e_pure hM
  exact ⟨_, resE_tmp rfl, ⟨r58, hr_, rfl, (H.pick [] (by decide) rfl)⟩⟩
 replace hM := M.e_f hM c190z
 simp only [qz1, qz2, qz3, qz4, qz5, qz6, ne_eq, qz7] at c190z
 refine W.skip <| sQ rfl <| sM u0_3 rfl <| sM u19z rfl ?_
 refine s_call cf31 [u19z] rfl (copy_int _ (hs20z.mono (roLe _ (H.get (k := 4) rfl))) (by omega)) ?_
 rintro v281z w280z ⟨ho_, hx_⟩
 replace H : St w w280z [cOwn (α := Int) 3 v281z l, cOwn (α := Int) 3 v182z (l.take (Int.toNat r57) ++ l.drop (Int.toNat (r57 + 1))), cBlk nb0_2 [v_tries, I q152, I q252] 158, cOwn (α := Raw 0) 34 v_l5 rw_l5, cRo B_l5, cRo Bs_7, cOwn (α := Int) 3 u0_6 r4, cBlk nb0_1 [v_numbers, I q12, I q22] 158, cOwn (α := Raw 2) 60 u0_3 rr1_4, cRo Bs2_5] R := H.ownOf hx_ ho_
 clear hx_ ho_
 obtain ⟨⟨l15, e2⟩, hx285z, hM⟩ := M.e_bind hM
 obtain ⟨hq286z, hq287z⟩ := Prod.mk.inj (M.e_pure hx285z)
 try dsimp only at hM
 refine s_call cf32 [u0_3, v281z] rfl (by have hc_ := (Stale_any _ ((rowSl rfl (H.get (k := 8) rfl) (roLe _ (H.get (k := 9) rfl)) hf13z).mono (Cells.sup_le (ownLe _ (H.get (k := 8) rfl)) (roLe _ (H.get (k := 9) rfl)))) ((ownSl (H.get (k := 0) rfl)).mono (ownLe _ (H.get (k := 0) rfl)))); rw [hq286z, hq287z] at hc_; exact hc_) ?_
 rintro _ w282z ⟨u283z, rfl, hs284z, hx_⟩
 obtain ⟨Bs_29, H, hs284z⟩ := H.fresh hx_ hs284z
 clear hx_
 have hl_hs284z := hs284z.len_le
 refine sM (.tuple #[u283z, I e2]) rfl <| sX [u283z, I e2] u283z rfl rfl <| sX [u283z, I e2] (I e2) rfl rfl <| sA u283z rfl <| sA (I e2) rfl <| s_nil <| W.seq <| sQ rfl <| sM (I e2) rfl <| sC e2 0 (e2 != 0) rfl rfl rfl <| sM (B (e2 != 0)) rfl ?_
 refine g_val (!(e2 != 0)) (gy_f rfl) (fun hg => x_mv (v := u283z) rfl) <| g_val (!(e2 != 0)) (gy_f rfl) (fun hg => x_mv (v := u19z) rfl) ?_
 refine t_gcall (!(e2 != 0)) (gy_f rfl) cf25 (B (decide (l15 = l))) (fun _ => [u283z, u19z]) (fun hg => lst2 (gd_of (c := !(e2 != 0)) hg (u283z)) (gd_of (c := !(e2 != 0)) hg (u19z))) H (fun hg => Ret.mono (same_int _ (hs284z.mono (roLe _ (H.get (k := 0) rfl))) (hs20z.mono (roLe _ (H.get (k := 6) rfl)))) fun v_ w_ ⟨hv_, hx_⟩ => ⟨hv_, H.ext hx_⟩) ?_
 intro w288z H
 refine g_val (!(e2 != 0)) (gy_f rfl) (fun hg => x_not (b := decide (l15 = l)) (gd_of (c := !(e2 != 0)) hg (B (decide (l15 = l))))) <| s_val (x_por (b := e2 != 0) (r := !(decide (l15 = l))) rfl rfl (fun hb => gd_of (c := !(e2 != 0)) (by first | exact hb | (rw [hb]; rfl) | simp_all) (B (!(decide (l15 = l)))))) <| s_nil ?_
 refine W.cond ((e2 != 0) || (!(decide (l15 = l)))) rfl (fun c289z => ?_) (fun c289z => ?_)
 ·replace hM := M.e_t hM c289z
  refine sQ rfl <| sA (B false) rfl <| s_nil ?_
  refine W.ret ?_
  have hr_ := M.e_pure hM
  exact ⟨_, resE_tmp rfl, ⟨false, hr_, rfl, (H.pick [] (by decide) rfl)⟩⟩
 replace hM := M.e_f hM c289z
 refine W.skip <| sQ rfl <| sM u0_3 rfl <| sM u0_6 rfl ?_
 obtain ⟨sd292z, hM⟩ := M.e_gd hM
 obtain ⟨u290z, hr_u290z, hs291z⟩ := sl_hi T34.und T34.size (ownSl (H.get (k := 7) rfl)) (j := 1) (by omega) (by omega)
 replace hs291z : Sl _ u290z (r4.take 1) := hs291z
 refine s_val (x_sl (v := u0_6) (u := u290z) (lo' := none) (hi' := some (I 1)) (mx' := none) rfl rfl rfl rfl (hr_u290z _)) ?_
 obtain ⟨⟨l16, e3⟩, hx296z, hM⟩ := M.e_bind hM
 obtain ⟨hq297z, hq298z⟩ := Prod.mk.inj (M.e_pure hx296z)
 try dsimp only at hM
 refine s_call cf32 [u0_3, u290z] rfl (by have hc_ := (Stale_any _ ((rowSl rfl (H.get (k := 9) rfl) (roLe _ (H.get (k := 10) rfl)) hf13z).mono (Cells.sup_le (ownLe _ (H.get (k := 9) rfl)) (roLe _ (H.get (k := 10) rfl)))) (hs291z.mono (ownLe _ (H.get (k := 7) rfl)))); rw [hq297z, hq298z] at hc_; exact hc_) ?_
 rintro _ w293z ⟨u294z, rfl, hs295z, hx_⟩
 obtain ⟨Bs_30, H, hs295z⟩ := H.fresh hx_ hs295z
 clear hx_
 have hl_hs295z := hs295z.len_le
 refine sM (.tuple #[u294z, I e3]) rfl <| sX [u294z, I e3] u294z rfl rfl <| sX [u294z, I e3] (I e3) rfl rfl <| sA u294z rfl <| sA (I e3) rfl <| s_nil <| W.seq <| sQ rfl <| sM (I e3) rfl <| sC e3 0 (e3 != 0) rfl rfl rfl <| s_nil ?_
 refine W.cond (e3 != 0) rfl (fun c299z => ?_) (fun c299z => ?_)
 ·replace hM := M.e_t hM c299z
  simp only [qz1, qz2, qz3, qz4, qz5, qz6, ne_eq, qz7] at c299z
  refine sQ rfl <| sA (B false) rfl <| s_nil ?_
  refine W.ret ?_
  have hr_ := M.e_pure hM
  exact ⟨_, resE_tmp rfl, ⟨false, hr_, rfl, (H.pick [] (by decide) rfl)⟩⟩
 replace hM := M.e_f hM c299z
 simp only [qz1, qz2, qz3, qz4, qz5, qz6, ne_eq, qz7] at c299z
 refine W.skip <| W.seq <| sQ rfl <| sM u294z rfl ?_
 have hl300z := (hs295z).len_le
 refine s_val (x_lenS T34.und rfl hs295z) <| sM (I 0) rfl <| s_nil <| W.block ?_
 obtain ⟨ex301z, hi302z, hk303z⟩ := M.e_bind hM
 obtain ⟨m0_, hi302z⟩ := M.e_iter hi302z
 refine W.loop (fun m σ W => ∃ (s15 : Nat) (ρ : Env), σ = upds ρ [(9, u19z), (226, u294z), (227, I (l16.length : Int)), (228, I (s15 : Int))] ∧ M.iterN (m_nilometerlaw13_NotesFenced_b12 l l16) m s15 = some ex301z ∧ St w W [cRo Bs_30, cRo Bs_29, cOwn (α := Int) 3 v281z l, cOwn (α := Int) 3 v182z (l.take (Int.toNat r57) ++ l.drop (Int.toNat (r57 + 1))), cBlk nb0_2 [v_tries, I q152, I q252] 158, cOwn (α := Raw 0) 34 v_l5 rw_l5, cRo B_l5, cRo Bs_7, cOwn (α := Int) 3 u0_6 r4, cBlk nb0_1 [v_numbers, I q12, I q22] 158, cOwn (α := Raw 2) 60 u0_3 rr1_4, cRo Bs2_5] R) ?_ ?_
 ·exact ⟨_, 0, _, upds_of _ _ ⟨rfl, rfl, rfl, rfl, trivial⟩, hi302z, H⟩
 rintro m306z σ w304z ⟨s15, ρ, rfl, hI305z, H⟩
 obtain ⟨m307z, lt308z, x309z, hM, hN310z⟩ := M.e_iterN hI305z
 simp only [m_nilometerlaw13_NotesFenced_b12] at hM
 clear hI305z
 refine sQ rfl <| sC (s15 : Int) (l16.length : Int) (decide ((s15 : Int) < (l16.length : Int))) rfl rfl rfl <| s_nil <| W.seq ?_
 refine W.cond (decide ((s15 : Int) < (l16.length : Int))) rfl (fun c311z => ?_) (fun c311z => ?_)
 ·replace hM := M.e_t hM c311z
  simp only [qz1, qz2, qz3, qz4, qz5, qz6, ne_eq, qz7] at c311z
  refine W.skip <| W.seq <| W.block <| sQ rfl ?_
  obtain ⟨sd312z, hM⟩ := M.e_gd hM
  refine s_val (x_ix (a := u294z) (b := I (s15 : Int)) (v := vat u294z 1 (Int.toNat (s15 : Int))) rfl rfl (Sl.ix (α := Int) T34.und T34.size hs295z (by omega) (by omega))) <| s_val (x_ld (p := vat u294z 1 (Int.toNat (s15 : Int))) (v := I (l16.getD s15 0)) rfl (ld_sc Sc3 (At.mono (Int_at hs295z (i := (s15 : Int)) (by omega) (by omega)) (roLe _ (H.get (k := 0) rfl))))) <| sA (I (l16.getD s15 0)) rfl <| s_nil <| sQ rfl <| sM u19z rfl <| sM (I (l16.getD s15 0)) rfl ?_
  refine s_call cf45 [u19z, I (l16.getD s15 0)] rfl (contains_int (l16.getD s15 0) _ (hs20z.mono (roLe _ (H.get (k := 7) rfl)))) ?_
  rintro _ w313z ⟨rfl, hx_⟩
  replace H : St w w313z [cRo Bs_30, cRo Bs_29, cOwn (α := Int) 3 v281z l, cOwn (α := Int) 3 v182z (l.take (Int.toNat r57) ++ l.drop (Int.toNat (r57 + 1))), cBlk nb0_2 [v_tries, I q152, I q252] 158, cOwn (α := Raw 0) 34 v_l5 rw_l5, cRo B_l5, cRo Bs_7, cOwn (α := Int) 3 u0_6 r4, cBlk nb0_1 [v_numbers, I q12, I q22] 158, cOwn (α := Raw 2) 60 u0_3 rr1_4, cRo Bs2_5] R := H.ext hx_
  clear hx_
  refine s_val (x_not (b := l.contains (l16.getD s15 0)) rfl) <| s_nil ?_
  refine W.cond (!(l.contains (l16.getD s15 0))) rfl (fun c314z => ?_) (fun c314z => ?_)
  ·replace hM := M.e_t hM c314z
   refine sQ rfl <| sA (B false) rfl <| s_nil ?_
   refine W.ret ?_
   have hX315z := M.e_inr hM hN310z
   subst hX315z
   replace hM := hk303z
   try dsimp only at hM
   have hr_ := M.e_pure hM
   exact ⟨_, resE_tmp rfl, ⟨false, hr_, rfl, (H.pick [] (by decide) rfl)⟩⟩
  replace hM := M.e_f hM c314z
  refine W.skip <| W.region rfl <| sR (s15 : Int) 1 ((s15 : Int) + 1) rfl rfl rfl (by omega) <| sM (I ((s15 : Int) + 1)) rfl <| s_nil ?_
  exact ⟨m307z, lt308z, s15 + 1, _, upds_of _ _ ⟨rfl, rfl, rfl, rfl, trivial⟩, M.e_inl hM hN310z, H⟩
 replace hM := M.e_f hM c311z
 simp only [qz1, qz2, qz3, qz4, qz5, qz6, ne_eq, qz7] at c311z
 refine W.exit ?_
 have hX316z := M.e_inr hM hN310z
 subst hX316z
 replace hM := hk303z
 try dsimp only at hM
 refine sQ rfl ?_
 obtain ⟨r318z, hx317z, hM⟩ := M.e_bind hM
 refine s_call cf17 [] rfl (nilometerlaw13_awake_ok hx317z _ (St.give (T := [cRo Bs_30, cRo Bs_29, cOwn (α := Int) 3 v281z l, cOwn (α := Int) 3 v182z (l.take (Int.toNat r57) ++ l.drop (Int.toNat (r57 + 1))), cBlk nb0_2 [v_tries, I q152, I q252] 158, cOwn (α := Raw 0) 34 v_l5 rw_l5, cRo B_l5, cRo Bs_7, cOwn (α := Int) 3 u0_6 r4, cBlk nb0_1 [v_numbers, I q12, I q22] 158, cOwn (α := Raw 2) 60 u0_3 rr1_4, cRo Bs2_5]) H rfl)) ?_
 rintro vq w319z ⟨r58, hr320z, hvq, H2_⟩
 subst hr320z
 subst vq
 try dsimp only at hM
 replace H : St w w319z [cRo Bs_30, cRo Bs_29, cOwn (α := Int) 3 v281z l, cOwn (α := Int) 3 v182z (l.take (Int.toNat r57) ++ l.drop (Int.toNat (r57 + 1))), cBlk nb0_2 [v_tries, I q152, I q252] 158, cOwn (α := Raw 0) 34 v_l5 rw_l5, cRo B_l5, cRo Bs_7, cOwn (α := Int) 3 u0_6 r4, cBlk nb0_1 [v_numbers, I q12, I q22] 158, cOwn (α := Raw 2) 60 u0_3 rr1_4, cRo Bs2_5] R := H.back H2_ rfl
 clear H2_
 refine sA (B r58) rfl <| s_nil ?_
 refine W.ret ?_
 have hr_ := M.e_pure hM
 exact ⟨_, resE_tmp rfl, ⟨r58, hr_, rfl, (H.pick [] (by decide) rfl)⟩⟩

end Go.Proofs.Ytndobgodeicloaa
end
