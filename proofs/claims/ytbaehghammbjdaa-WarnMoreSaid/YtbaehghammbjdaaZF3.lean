/- Part 3 of the texts on which the proof rests. Conditions: none. -/
import Derived.Test.YtbaehghammbjdaaZF2
set_option linter.unusedVariables false
set_option linter.unusedSimpArgs false
set_option linter.unusedSectionVars false
section
set_option maxRecDepth 100000
set_option maxHeartbeats 16000000
namespace Go.Proofs.Ytbaehghammbjdaa
open Go Go.Nm
def za8 (aa : List Int) (ab : List Span) : Nat -> M (Nat ⊕ (Int ⊕ Unit)) := fun s =>
  bif decide ((s : Int) < (aa.length : Int)) then (
  M.grd (decide ((s : Int) < (aa.length : Int))) <|
  M.bind (M.opt ((aa.getD s 0) != (-1)) (zad (aa.getD s 0) ((s : Int) + 1) ((aa.length : Int) - 1)) false) fun r4 =>
  bif (((aa.getD s 0) != (-1)) && (!r4)) then (
  M.pure (.inr (.inl 2)))
  else (
  M.grd (decide ((s : Int) < (ab.length : Int))) <|
  M.bind (zbH (ab.getD s default)) fun r5 =>
  bif !r5 then (
  M.pure (.inr (.inl 130)))
  else (
  M.pure (.inl (s + 1)))))
  else (
  M.pure (.inr (.inr ())))
def zaD : Int -> (Int × Int) -> M (Int ⊕ Unit) := fun s3 (x, x2) =>
  M.grd (decide ((-9223372036854775808 : Int) <= (s3 + 1)) && decide ((s3 + 1) <= (9223372036854775807 : Int))) <|
  M.pure (.inl (s3 + 1))
def zbN (ac : List Int) (ae : List Span) (ab : List Int) (ag : List Town) (ah : Int) (ai : Int) (aa : List Flood) : Nat -> M (Nat ⊕ (Int ⊕ Unit)) := fun s4 =>
  bif decide ((s4 : Int) < (aa.length : Int)) then (
  M.grd (decide ((s4 : Int) < (aa.length : Int))) <|
  M.bind (zan ac ae ab ag ah ai aa (max 0 ((aa.getD s4 default).spring))) fun (aj, ak, al) =>
  M.bind (zak (M.yl zaD) (.inl 0) aj ac ae ab ag ak al aa) fun x_ => match x_ with
  | (.inl s3, q0) => (
  M.bind (zcb ab ((aa.getD s4 default).spring)) fun am =>
  bif ((!am) || ((((aa.getD s4 default).stages).length : Int) != s3)) then (
  M.pure (.inr (.inl 2)))
  else (
  M.bind (zbz ((aa.getD s4 default).stages) (fun ao => zaJ ao)) fun aq =>
  bif !aq then (
  M.pure (.inr (.inl 130)))
  else (
  M.pure (.inl (s4 + 1)))))
  | (.inr _, _) => M.fail)
  else (
  M.pure (.inr (.inr ())))
def zbh (aa : List Int) (ab : List Span) (ae : List Int) (ac : List Town) (ah : Int) (ai : Int) (aj : List Flood) : M Int :=
  M.bind (zad (aa.length : Int) 1 12) fun r2 =>
  M.bind (M.opt (!((!r2) || ((ab.length : Int) != (aa.length : Int)))) (zad (ae.length : Int) 1 8) false) fun r3 =>
  bif (((((!r2) || ((ab.length : Int) != (aa.length : Int))) || (!r3)) || (decide (8 < (ac.length : Int)))) || (decide (20 < (aj.length : Int)))) then (
  M.pure 3)
  else (
  M.bind (M.iter (za8 aa ab) 0) fun x_ => match x_ with
  | (.inl s2) => (
  M.pure s2)
  | (.inr (_ : Unit)) => (
  M.bind (za0 ae (aa.length : Int)) fun r6 =>
  bif !r6 then (
  M.pure 9)
  else (
  M.bind (zbF ac (fun ag => zb3 ag)) fun r7 =>
  M.bind (M.opt (!(!r7)) (zbF ac (fun ag => zbS ag (aa.length : Int))) false) fun r8 =>
  M.bind (M.opt (!((!r7) || (!r8))) (zbH (⟨(ah : Int), (ai : Int)⟩ : Span)) false) fun r9 =>
  bif (((!r7) || (!r8)) || (!r9)) then (
  M.pure 130)
  else (
  M.bind (M.iter (zbN aa ab ae ac ah ai aj) 0) fun x_ => match x_ with
  | (.inl s5) => (
  M.pure s5)
  | (.inr (_ : Unit)) => (
  M.pure 0)))))
theorem zdh {R : List Chunk} {bC : Cells} {ai : Value} {bD : Cells} {aj : Value} {bE : Cells} {ak : Value} {bF : Cells} {ag : Value} {bG : Cells} {ah : Value} (aa : List Int) (ac : List Span) (aA : List Int) (al : List Town) (aq : Int) (au : Int) (ae : List Flood) (aQ : Reads R bC) (aB : Sl bC ai aa) (aR : Reads R bD) (aF : Sl bD aj ac) (aK : Reads R bE) (aG : Sl bE ak aA) (aL : Reads R bF) (aH : Sl bF ag al) (aM : Reads R bG) (aC : Sl bG ah ae) {r : Int} (hM : (zbh aa ac aA al aq au ae).Ends r) (w : World) (H : St w w [] R) : Ret Try.prog 66 #[.agg #[ai, aj, ak, ag, I aq, I au, ah]] w fun v w' => ∃ (y0 : Int), y0 = r /\ v = I y0 /\ St w w' [] R := by
 refine ret_of_WD Try.func66 rfl rfl rfl ?_
 replace H : St w w [cMk ([])] R := H.mk0
 have cH := aB.len_le
 have cI := aF.len_le
 have cJ := aG.len_le
 have cK := aH.len_le
 have cL := aC.len_le
 unfold zbh at hM
 refine WD.seq ?_
 refine WD.of ?_
 refine W.region rfl ?_
 refine t_box (v := .agg #[ai, aj, ak, ag, I aq, I au, ah]) (cs := [ai, aj, ak, ag, I aq, I au, ah]) H rfl rfl ?_
 intro ab cM H
 refine zA (I 0) rfl ?_
 refine s_nil ?_
 refine WD.seq ?_
 refine WD.of ?_
 refine W.region rfl ?_
 refine s_val (x_fa (a := Pq ab) (v := Pq ab) rfl (fa_blk (o := 0) Fd30_0 Sz23)) ?_
 refine s_val (x_ld (p := Pq ab) (v := ai) rfl (ldb_sc Sc23 (H.bl 0) rfl)) ?_
 have cN := (aB).len_le
 refine s_val (x_lenS T23.und rfl aB) ?_
 refine t_alloc (cs := [I 0]) H Al3 rfl ?_
 intro aw cO H
 refine t_sw 0 0 [I (aa.length : Int)] (I (aa.length : Int)) H rfl rfl Sz3 rfl rfl rfl rfl ?_
 intro cP H
 refine s_nil ?_
 refine WD.seq ?_
 refine WD.seq ?_
 refine WD.of ?_
 refine W.region rfl ?_
 refine s_val (x_ld (p := Pq aw) (v := I (aa.length : Int)) rfl (ldb_sc Sc3 (H.bl 0) rfl)) ?_
 obtain ⟨cQ, bQ, hM⟩ := M.e_bind hM
 refine s_call cf37 [I (aa.length : Int), I 1, I 12] rfl (zah (aa.length : Int) 1 12 bQ _ (H.gt 3)) ?_
 rintro vq cR ⟨r2, bR, hvq, am⟩
 subst bR
 subst vq
 try dsimp only at hM
 replace H := H.bk am
 clear am
 refine s_val (x_not (b := r2) rfl) ?_
 refine zM (B (!r2)) rfl ?_
 refine g_val (!(!r2)) (gy_f rfl) (fun hg => x_fa (a := Pq ab) (v := Oq ab 1) rfl (fa_blk (o := 0) Fd30_1 Sz24)) ?_
 refine g_val (!(!r2)) (gy_f rfl) (fun hg => x_ld (p := Oq ab 1) (v := aj) (gd_of (c := !(!r2)) hg (Oq ab 1)) (ldb_sc Sc24 (H.bl 1) rfl)) ?_
 have cS := (aF).len_le
 refine g_val (!(!r2)) (gy_f rfl) (fun hg => x_lenS T24.und (gd_of (c := !(!r2)) hg (aj)) aF) ?_
 refine g_val (!(!r2)) (gy_f rfl) (fun hg => x_ld (p := Pq aw) (v := I (aa.length : Int)) rfl (ldb_sc Sc3 (H.bl 0) rfl)) ?_
 refine g_val (!(!r2)) (gy_f rfl) (fun hg => x_cmp (kd := .i64) (a := (ac.length : Int)) (b := (aa.length : Int)) (r := (ac.length : Int) != (aa.length : Int)) (gd_of (c := !(!r2)) hg (I (ac.length : Int))) (gd_of (c := !(!r2)) hg (I (aa.length : Int))) rfl) ?_
 refine s_val (x_por (b := !r2) (r := (ac.length : Int) != (aa.length : Int)) rfl rfl (fun hb => gd_of (c := !(!r2)) (by first | exact hb | (rw [hb]; rfl) | simp_all) (B ((ac.length : Int) != (aa.length : Int))))) ?_
 refine zM (B ((!r2) || ((ac.length : Int) != (aa.length : Int)))) rfl ?_
 refine g_val (!((!r2) || ((ac.length : Int) != (aa.length : Int)))) (gy_f rfl) (fun hg => x_fa (a := Pq ab) (v := Oq ab 2) rfl (fa_blk (o := 0) Fd30_2 Sz23)) ?_
 refine g_val (!((!r2) || ((ac.length : Int) != (aa.length : Int)))) (gy_f rfl) (fun hg => x_ld (p := Oq ab 2) (v := ak) (gd_of (c := !((!r2) || ((ac.length : Int) != (aa.length : Int)))) hg (Oq ab 2)) (ldb_sc Sc23 (H.bl 1) rfl)) ?_
 have cT := (aG).len_le
 refine g_val (!((!r2) || ((ac.length : Int) != (aa.length : Int)))) (gy_f rfl) (fun hg => x_lenS T23.und (gd_of (c := !((!r2) || ((ac.length : Int) != (aa.length : Int)))) hg (ak)) aG) ?_
 obtain ⟨r3, bS, hM⟩ := M.e_bind hM
 refine t_gcall (!((!r2) || ((ac.length : Int) != (aa.length : Int)))) (gy_f rfl) cf37 (B r3) (fun _ => [I (aA.length : Int), I 1, I 8]) (fun hg => lst3 (gd_of (c := !((!r2) || ((ac.length : Int) != (aa.length : Int)))) hg (I (aA.length : Int))) rfl rfl) H (fun hg => (zah (aA.length : Int) 1 8 (M.e_opt bS hg) _ (H.give (A := []) rfl)).mono fun v_ w_ ⟨y_, ao, aI, H_⟩ => by subst ao; exact ⟨aI, H.via H_⟩) ?_
 intro cU H
 refine g_val (!((!r2) || ((ac.length : Int) != (aa.length : Int)))) (gy_f rfl) (fun hg => x_not (b := r3) (gd_of (c := !((!r2) || ((ac.length : Int) != (aa.length : Int)))) hg (B r3))) ?_
 refine s_val (x_por (b := ((!r2) || ((ac.length : Int) != (aa.length : Int)))) (r := !r3) rfl rfl (fun hb => gd_of (c := !((!r2) || ((ac.length : Int) != (aa.length : Int)))) (by first | exact hb | (rw [hb]; rfl) | simp_all) (B (!r3)))) ?_
 refine zM (B (((!r2) || ((ac.length : Int) != (aa.length : Int))) || (!r3))) rfl ?_
 refine g_val (!(((!r2) || ((ac.length : Int) != (aa.length : Int))) || (!r3))) (gy_f rfl) (fun hg => x_fa (a := Pq ab) (v := Oq ab 3) rfl (fa_blk (o := 0) Fd30_3 Sz25)) ?_
 refine g_val (!(((!r2) || ((ac.length : Int) != (aa.length : Int))) || (!r3))) (gy_f rfl) (fun hg => x_ld (p := Oq ab 3) (v := ag) (gd_of (c := !(((!r2) || ((ac.length : Int) != (aa.length : Int))) || (!r3))) hg (Oq ab 3)) (ldb_sc Sc25 (H.bl 1) rfl)) ?_
 have cV := (aH).len_le
 refine g_val (!(((!r2) || ((ac.length : Int) != (aa.length : Int))) || (!r3))) (gy_f rfl) (fun hg => x_lenS T25.und (gd_of (c := !(((!r2) || ((ac.length : Int) != (aa.length : Int))) || (!r3))) hg (ag)) aH) ?_
 refine g_val (!(((!r2) || ((ac.length : Int) != (aa.length : Int))) || (!r3))) (gy_f rfl) (fun hg => x_cmp (kd := .i64) (a := (al.length : Int)) (b := 8) (r := decide (8 < (al.length : Int))) (gd_of (c := !(((!r2) || ((ac.length : Int) != (aa.length : Int))) || (!r3))) hg (I (al.length : Int))) rfl rfl) ?_
 refine s_val (x_por (b := (((!r2) || ((ac.length : Int) != (aa.length : Int))) || (!r3))) (r := decide (8 < (al.length : Int))) rfl rfl (fun hb => gd_of (c := !(((!r2) || ((ac.length : Int) != (aa.length : Int))) || (!r3))) (by first | exact hb | (rw [hb]; rfl) | simp_all) (B (decide (8 < (al.length : Int)))))) ?_
 refine zM (B ((((!r2) || ((ac.length : Int) != (aa.length : Int))) || (!r3)) || (decide (8 < (al.length : Int))))) rfl ?_
 refine g_val (!((((!r2) || ((ac.length : Int) != (aa.length : Int))) || (!r3)) || (decide (8 < (al.length : Int))))) (gy_f rfl) (fun hg => x_fa (a := Pq ab) (v := Oq ab 6) rfl (fa_blk (o := 0) Fd30_5 Sz28)) ?_
 refine g_val (!((((!r2) || ((ac.length : Int) != (aa.length : Int))) || (!r3)) || (decide (8 < (al.length : Int))))) (gy_f rfl) (fun hg => x_ld (p := Oq ab 6) (v := ah) (gd_of (c := !((((!r2) || ((ac.length : Int) != (aa.length : Int))) || (!r3)) || (decide (8 < (al.length : Int))))) hg (Oq ab 6)) (ldb_sc Sc28 (H.bl 1) rfl)) ?_
 have cW := (aC).len_le
 refine g_val (!((((!r2) || ((ac.length : Int) != (aa.length : Int))) || (!r3)) || (decide (8 < (al.length : Int))))) (gy_f rfl) (fun hg => x_lenS T28.und (gd_of (c := !((((!r2) || ((ac.length : Int) != (aa.length : Int))) || (!r3)) || (decide (8 < (al.length : Int))))) hg (ah)) aC) ?_
 refine g_val (!((((!r2) || ((ac.length : Int) != (aa.length : Int))) || (!r3)) || (decide (8 < (al.length : Int))))) (gy_f rfl) (fun hg => x_cmp (kd := .i64) (a := (ae.length : Int)) (b := 20) (r := decide (20 < (ae.length : Int))) (gd_of (c := !((((!r2) || ((ac.length : Int) != (aa.length : Int))) || (!r3)) || (decide (8 < (al.length : Int))))) hg (I (ae.length : Int))) rfl rfl) ?_
 refine s_val (x_por (b := ((((!r2) || ((ac.length : Int) != (aa.length : Int))) || (!r3)) || (decide (8 < (al.length : Int))))) (r := decide (20 < (ae.length : Int))) rfl rfl (fun hb => gd_of (c := !((((!r2) || ((ac.length : Int) != (aa.length : Int))) || (!r3)) || (decide (8 < (al.length : Int))))) (by first | exact hb | (rw [hb]; rfl) | simp_all) (B (decide (20 < (ae.length : Int)))))) ?_
 refine s_nil ?_
 refine WD.cond (((((!r2) || ((ac.length : Int) != (aa.length : Int))) || (!r3)) || (decide (8 < (al.length : Int)))) || (decide (20 < (ae.length : Int)))) rfl (fun bi => ?_) (fun bi => ?_)
 ·replace hM := M.e_t hM bi
  refine WD.seq ?_
  refine WD.of ?_
  refine W.region rfl ?_
  refine zA (I 3) rfl ?_
  refine s_nil ?_
  replace H := H.pk [2]
  refine WD.of ?_
  refine W.ret ?_
  refine bodyD_r (H.pk [0]) ?_
  intro cX H
  replace H := H.nf
  have ao := M.e_pure hM
  exact ⟨_, resE_tmp rfl, ⟨3, ao, rfl, H⟩⟩
 replace hM := M.e_f hM bi
 refine WD.of ?_
 refine W.skip ?_
 refine WD.seq ?_
 refine WD.seq ?_
 refine WD.of ?_
 refine W.region rfl ?_
 refine s_val (x_fa (a := Pq ab) (v := Pq ab) rfl (fa_blk (o := 0) Fd30_0 Sz23)) ?_
 refine s_val (x_ld (p := Pq ab) (v := ai) rfl (ldb_sc Sc23 (H.bl 1) rfl)) ?_
 have cY := (aB).len_le
 refine s_val (x_lenS T23.und rfl aB) ?_
 refine zM (I 0) rfl ?_
 refine s_nil ?_
 refine WD.block ?_
 obtain ⟨bT, bj, bm⟩ := M.e_bind hM
 obtain ⟨bU, bj⟩ := M.e_iter bj
 refine WD.loop (fun m bH σ W => ∃ (s : Nat) (ρ : Env), σ = upds ρ [(1, Pq ab), (3, Pq aw), (42, ai), (43, I (aa.length : Int)), (44, I (s : Int))] /\ M.iterN (za8 aa ac) m s = some bT /\ St w W [cBlk aw [I (aa.length : Int)] 3, cBlk ab [ai, aj, ak, ag, I aq, I au, ah] 30, cMk bH] R) ?_ ?_
 ·exact ⟨_, 0, _, upds_of _ _ ⟨rfl, rfl, rfl, rfl, rfl, trivial⟩, bj, H⟩
 rintro cZ bH σ c0 ⟨s, ρ, rfl, bI, H⟩
 obtain ⟨bV, bW, c6, hM, bb⟩ := M.e_iterN bI
 simp only [za8] at hM
 clear bI
 refine WD.seq ?_
 refine WD.of ?_
 refine W.region rfl ?_
 refine zC (s : Int) (aa.length : Int) (decide ((s : Int) < (aa.length : Int))) rfl rfl rfl ?_
 refine s_nil ?_
 refine WD.seq ?_
 refine WD.cond (decide ((s : Int) < (aa.length : Int))) rfl (fun aS => ?_) (fun aS => ?_)
 ·replace hM := M.e_t hM aS
  simp only [qy1, qy2, qy3, qy4, qy5, qy6, ne_eq, qy7] at aS
  refine WD.of ?_
  refine W.skip ?_
  refine WD.seq ?_
  refine WD.block ?_
  refine WD.seq ?_
  refine WD.of ?_
  refine W.region rfl ?_
  refine zM (I (s : Int)) rfl ?_
  obtain ⟨bX, hM⟩ := M.e_grd hM
  simp only [Bool.and_eq_true, decide_eq_true_eq] at bX
  refine s_val (x_ix (a := ai) (b := I (s : Int)) (v := vat ai 1 (Int.toNat (s : Int))) rfl rfl (Sl.ix (α := Int) T23.und T23.size aB (by omega) (by omega))) ?_
  refine s_val (x_ld (p := vat ai 1 (Int.toNat (s : Int))) (v := I (aa.getD s 0)) rfl (ld_sc Sc3 (At.mono (Int_at aB (i := (s : Int)) (by omega) (by omega)) (aQ.at H)))) ?_
  refine zA (I (s : Int)) rfl ?_
  refine zA (I (aa.getD s 0)) rfl ?_
  refine s_nil ?_
  refine WD.block ?_
  refine WD.seq ?_
  refine WD.of ?_
  refine W.region rfl ?_
  refine zM (I (aa.getD s 0)) rfl ?_
  refine zC (aa.getD s 0) (-1) ((aa.getD s 0) != (-1)) rfl rfl rfl ?_
  refine zM (B ((aa.getD s 0) != (-1))) rfl ?_
  refine g_val ((aa.getD s 0) != (-1)) (gy_t rfl) (fun hg => x_mv (v := I (aa.getD s 0)) rfl) ?_
  refine g_val ((aa.getD s 0) != (-1)) (gy_t rfl) (fun hg => x_mv (v := I (s : Int)) rfl) ?_
  refine g_val ((aa.getD s 0) != (-1)) (gy_t rfl) (fun hg => x_ari (a := (s : Int)) (b := 1) (r := (s : Int) + 1) (gd_of (c := (aa.getD s 0) != (-1)) hg (I (s : Int))) rfl rfl (by first | omega | (have bn := hg; simp at bn; omega))) ?_
  refine g_val ((aa.getD s 0) != (-1)) (gy_t rfl) (fun hg => x_ld (p := Pq aw) (v := I (aa.length : Int)) rfl (ldb_sc Sc3 (H.bl 0) rfl)) ?_
  refine g_val ((aa.getD s 0) != (-1)) (gy_t rfl) (fun hg => x_ari (a := (aa.length : Int)) (b := 1) (r := (aa.length : Int) - 1) (gd_of (c := (aa.getD s 0) != (-1)) hg (I (aa.length : Int))) rfl rfl (by first | omega | (have bn := hg; simp at bn; omega))) ?_
  obtain ⟨r4, bY, hM⟩ := M.e_bind hM
  refine t_gcall ((aa.getD s 0) != (-1)) (gy_t rfl) cf37 (B r4) (fun _ => [I (aa.getD s 0), I ((s : Int) + 1), I ((aa.length : Int) - 1)]) (fun hg => lst3 (gd_of (c := (aa.getD s 0) != (-1)) hg (I (aa.getD s 0))) (gd_of (c := (aa.getD s 0) != (-1)) hg (I ((s : Int) + 1))) (gd_of (c := (aa.getD s 0) != (-1)) hg (I ((aa.length : Int) - 1)))) H (fun hg => (zah (aa.getD s 0) ((s : Int) + 1) ((aa.length : Int) - 1) (M.e_opt bY hg) _ (H.give (A := []) rfl)).mono fun v_ w_ ⟨y_, ao, aI, H_⟩ => by subst ao; exact ⟨aI, H.via H_⟩) ?_
  intro c7 H
  refine g_val ((aa.getD s 0) != (-1)) (gy_t rfl) (fun hg => x_not (b := r4) (gd_of (c := (aa.getD s 0) != (-1)) hg (B r4))) ?_
  refine s_val (x_pand (b := (aa.getD s 0) != (-1)) (r := !r4) rfl (fun hb => gd_of (c := (aa.getD s 0) != (-1)) (by first | exact hb | (rw [hb]; rfl) | simp_all) (B (!r4))) rfl) ?_
  refine zA (B (((aa.getD s 0) != (-1)) && (!r4))) rfl ?_
  refine s_nil ?_
  refine WD.cond (((aa.getD s 0) != (-1)) && (!r4)) rfl (fun bo => ?_) (fun bo => ?_)
  ·replace hM := M.e_t hM bo
   refine WD.seq ?_
   refine WD.of ?_
   refine W.region rfl ?_
   refine zA (I 2) rfl ?_
   refine s_nil ?_
   refine WD.of ?_
   refine W.ret ?_
   have bZ := M.e_inr hM bb
   subst bZ
   replace hM := bm
   try dsimp only at hM
   refine bodyD_r (H.pk [2, 0, 1]) ?_
   intro c8 H
   replace H := H.nf
   have ao := M.e_pure hM
   exact ⟨_, resE_tmp rfl, ⟨2, ao, rfl, (H.pk [])⟩⟩
  replace hM := M.e_f hM bo
  refine WD.seq ?_
  refine WD.of ?_
  refine W.region rfl ?_
  refine s_val (x_fa (a := Pq ab) (v := Oq ab 1) rfl (fa_blk (o := 0) Fd30_1 Sz24)) ?_
  refine s_val (x_ld (p := Oq ab 1) (v := aj) rfl (ldb_sc Sc24 (H.bl 1) rfl)) ?_
  refine zM (I (s : Int)) rfl ?_
  obtain ⟨b4, hM⟩ := M.e_grd hM
  simp only [Bool.and_eq_true, decide_eq_true_eq] at b4
  refine s_val (x_ix (a := aj) (b := I (s : Int)) (v := vat aj 2 (Int.toNat (s : Int))) rfl rfl (Sl.ix (α := Span) T24.und T24.size aF (by omega) (by omega))) ?_
  refine s_val (x_ld (p := vat aj 2 (Int.toNat (s : Int))) (v := .agg #[I ((ac.getD s default).lo), I ((ac.getD s default).hi)]) rfl (ld_ag Ag27 Sz27 (At.mono (Span_atA aF (i := (s : Int)) (by omega) (by omega)) (aR.at H)))) ?_
  obtain ⟨c9, b5, hM⟩ := M.e_bind hM
  refine s_call cf80 [.agg #[I ((ac.getD s default).lo), I ((ac.getD s default).hi)]] rfl (zcM (ac.getD s default) b5 _ (H.gt 3)) ?_
  rintro vq da ⟨r5, b6, hvq, am⟩
  subst b6
  subst vq
  try dsimp only at hM
  replace H := H.bk am
  clear am
  refine s_val (x_not (b := r5) rfl) ?_
  refine zA (B (!r5)) rfl ?_
  refine s_nil ?_
  refine WD.cond (!r5) rfl (fun bp => ?_) (fun bp => ?_)
  ·replace hM := M.e_t hM bp
   refine WD.seq ?_
   refine WD.of ?_
   refine W.region rfl ?_
   refine zA (I 130) rfl ?_
   refine s_nil ?_
   refine WD.of ?_
   refine W.ret ?_
   have b7 := M.e_inr hM bb
   subst b7
   replace hM := bm
   try dsimp only at hM
   refine bodyD_r (H.pk [2, 0, 1]) ?_
   intro db H
   replace H := H.nf
   have ao := M.e_pure hM
   exact ⟨_, resE_tmp rfl, ⟨130, ao, rfl, (H.pk [])⟩⟩
  replace hM := M.e_f hM bp
  refine WD.of ?_
  refine W.skip ?_
  refine WD.of ?_
  refine W.region rfl ?_
  refine zR (s : Int) 1 ((s : Int) + 1) rfl rfl rfl (by omega) ?_
  refine zM (I ((s : Int) + 1)) rfl ?_
  refine s_nil ?_
  exact ⟨bV, bW, s + 1, _, upds_of _ _ ⟨rfl, rfl, rfl, rfl, rfl, trivial⟩, M.e_inl hM bb, H⟩
 replace hM := M.e_f hM aS
 simp only [qy1, qy2, qy3, qy4, qy5, qy6, ne_eq, qy7] at aS
 refine WD.of ?_
 refine W.exit ?_
 have b8 := M.e_inr hM bb
 subst b8
 replace hM := bm
 try dsimp only at hM
 refine WD.seq ?_
 refine WD.block ?_
 refine WD.seq ?_
 refine WD.of ?_
 refine W.region rfl ?_
 refine s_val (x_fa (a := Pq ab) (v := Oq ab 2) rfl (fa_blk (o := 0) Fd30_2 Sz23)) ?_
 refine s_val (x_ld (p := Oq ab 2) (v := ak) rfl (ldb_sc Sc23 (H.bl 1) rfl)) ?_
 refine s_val (x_ld (p := Pq aw) (v := I (aa.length : Int)) rfl (ldb_sc Sc3 (H.bl 0) rfl)) ?_
 obtain ⟨dc, b9, hM⟩ := M.e_bind hM
 refine s_call cf62 [ak, I (aa.length : Int)] rfl (zcv aA (aa.length : Int) (aK.app _) aG b9 _ (H.gt 3)) ?_
 rintro vq dd ⟨r6, ca, hvq, am⟩
 subst ca
 subst vq
 try dsimp only at hM
 replace H := H.bk am
 clear am
 refine s_val (x_not (b := r6) rfl) ?_
 refine zA (B (!r6)) rfl ?_
 refine s_nil ?_
 refine WD.cond (!r6) rfl (fun bq => ?_) (fun bq => ?_)
 ·replace hM := M.e_t hM bq
  refine WD.seq ?_
  refine WD.of ?_
  refine W.region rfl ?_
  refine zA (I 9) rfl ?_
  refine s_nil ?_
  replace H := H.pk [2]
  refine WD.of ?_
  refine W.ret ?_
  refine bodyD_r (H.pk [0]) ?_
  intro de H
  replace H := H.nf
  have ao := M.e_pure hM
  exact ⟨_, resE_tmp rfl, ⟨9, ao, rfl, H⟩⟩
 replace hM := M.e_f hM bq
 refine WD.seq ?_
 refine WD.of ?_
 refine W.region rfl ?_
 refine s_val (x_fa (a := Pq ab) (v := Oq ab 3) rfl (fa_blk (o := 0) Fd30_3 Sz25)) ?_
 refine s_val (x_ld (p := Oq ab 3) (v := ag) rfl (ldb_sc Sc25 (H.bl 1) rfl)) ?_
 obtain ⟨dg, cb, hM⟩ := M.e_bind hM
 refine s_call cf81 [ag, .func (.func 82) #[] #[]] rfl (zcX al (fun az => zb3 az) (aL.app _) aH ⟨82, [], rfl, cf82, fun aE bJ bK aT az bL aU bM aV aW => by obtain rfl := Town_arg aV; exact (zde az aW aE (St.refl aU)).mono fun aT aE ⟨bN, aX, aY, aZ⟩ => by subst aX; exact ⟨aY, aZ⟩⟩ cb _ (H.gt 3)) ?_
 rintro vq di ⟨r7, cc, hvq, am⟩
 subst cc
 subst vq
 try dsimp only at hM
 replace H := H.bk am
 clear am
 refine s_val (x_not (b := r7) rfl) ?_
 refine zM (B (!r7)) rfl ?_
 refine g_val (!(!r7)) (gy_f rfl) (fun hg => x_fa (a := Pq ab) (v := Oq ab 3) rfl (fa_blk (o := 0) Fd30_3 Sz25)) ?_
 refine g_val (!(!r7)) (gy_f rfl) (fun hg => x_ld (p := Oq ab 3) (v := ag) (gd_of (c := !(!r7)) hg (Oq ab 3)) (ldb_sc Sc25 (H.bl 1) rfl)) ?_
 refine g_val (!(!r7)) (gy_f rfl) (fun hg => x_mf (fs := []) (cs := [Pq aw]) rfl rfl) ?_
 obtain ⟨r8, cd, hM⟩ := M.e_bind hM
 refine t_gcall (!(!r7)) (gy_f rfl) cf81 (B r8) (fun _ => [ag, .func (.func 83) #[] #[Pq aw]]) (fun hg => lst2 (gd_of (c := !(!r7)) hg (ag)) (gd_of (c := !(!r7)) hg (.func (.func 83) #[] #[Pq aw]))) H (fun hg => (zcX al (fun az => zbS az (aa.length : Int)) (aL.app _) aH ⟨83, [Pq aw], rfl, cf83, fun aE bJ bK aT az bL aU bM aV aW => by obtain rfl := Town_arg aV; exact (zdF az (aa.length : Int) (Has.app (Has.here (k := 0) rfl) _) aW aE (St.refl aU)).mono fun aT aE ⟨bN, aX, aY, aZ⟩ => by subst aX; exact ⟨aY, aZ⟩⟩ (M.e_opt cd hg) _ (H.give (A := []) rfl)).mono fun v_ w_ ⟨y_, ao, aI, H_⟩ => by subst ao; exact ⟨aI, H.via H_⟩) ?_
 intro dk H
 refine g_val (!(!r7)) (gy_f rfl) (fun hg => x_not (b := r8) (gd_of (c := !(!r7)) hg (B r8))) ?_
 refine s_val (x_por (b := !r7) (r := !r8) rfl rfl (fun hb => gd_of (c := !(!r7)) (by first | exact hb | (rw [hb]; rfl) | simp_all) (B (!r8)))) ?_
 refine zM (B ((!r7) || (!r8))) rfl ?_
 refine g_val (!((!r7) || (!r8))) (gy_f rfl) (fun hg => x_fa (a := Pq ab) (v := Oq ab 4) rfl (fa_blk (o := 0) Fd30_4 Sz27)) ?_
 refine g_val (!((!r7) || (!r8))) (gy_f rfl) (fun hg => x_ld (p := Oq ab 4) (v := .agg #[I aq, I au]) (gd_of (c := !((!r7) || (!r8))) hg (Oq ab 4)) (ldb_ag (ds := [I aq, I au]) Ag27 Sz27 (H.bl 1) rfl rfl)) ?_
 obtain ⟨r9, ce, hM⟩ := M.e_bind hM
 refine t_gcall (!((!r7) || (!r8))) (gy_f rfl) cf80 (B r9) (fun _ => [.agg #[I aq, I au]]) (fun hg => lst1 (gd_of (c := !((!r7) || (!r8))) hg (.agg #[I aq, I au]))) H (fun hg => (zcM (⟨(aq : Int), (au : Int)⟩ : Span) (M.e_opt ce hg) _ (H.give (A := []) rfl)).mono fun v_ w_ ⟨y_, ao, aI, H_⟩ => by subst ao; exact ⟨aI, H.via H_⟩) ?_
 intro dm H
 refine g_val (!((!r7) || (!r8))) (gy_f rfl) (fun hg => x_not (b := r9) (gd_of (c := !((!r7) || (!r8))) hg (B r9))) ?_
 refine s_val (x_por (b := ((!r7) || (!r8))) (r := !r9) rfl rfl (fun hb => gd_of (c := !((!r7) || (!r8))) (by first | exact hb | (rw [hb]; rfl) | simp_all) (B (!r9)))) ?_
 refine zA (B (((!r7) || (!r8)) || (!r9))) rfl ?_
 refine s_nil ?_
 refine WD.cond (((!r7) || (!r8)) || (!r9)) rfl (fun br => ?_) (fun br => ?_)
 ·replace hM := M.e_t hM br
  refine WD.seq ?_
  refine WD.of ?_
  refine W.region rfl ?_
  refine zA (I 130) rfl ?_
  refine s_nil ?_
  replace H := H.pk [2]
  refine WD.of ?_
  refine W.ret ?_
  refine bodyD_r (H.pk [0]) ?_
  intro dq H
  replace H := H.nf
  have ao := M.e_pure hM
  exact ⟨_, resE_tmp rfl, ⟨130, ao, rfl, H⟩⟩
 replace hM := M.e_f hM br
 refine WD.of ?_
 refine W.skip ?_
 refine WD.seq ?_
 refine WD.seq ?_
 refine WD.of ?_
 refine W.region rfl ?_
 refine s_val (x_fa (a := Pq ab) (v := Oq ab 6) rfl (fa_blk (o := 0) Fd30_5 Sz28)) ?_
 refine s_val (x_ld (p := Oq ab 6) (v := ah) rfl (ldb_sc Sc28 (H.bl 1) rfl)) ?_
 have dr := (aC).len_le
 refine s_val (x_lenS T28.und rfl aC) ?_
 refine zM (I 0) rfl ?_
 refine s_nil ?_
 refine WD.block ?_
 obtain ⟨cf, bt, bu⟩ := M.e_bind hM
 obtain ⟨bU, bt⟩ := M.e_iter bt
 refine WD.loop (fun m a6 σ W => ∃ (s4 : Nat) (ρ : Env), σ = upds ρ [(1, Pq ab), (95, ah), (96, I (ae.length : Int)), (97, I (s4 : Int))] /\ M.iterN (zbN aa ac aA al aq au ae) m s4 = some cf /\ St w W [cBlk aw [I (aa.length : Int)] 3, cBlk ab [ai, aj, ak, ag, I aq, I au, ah] 30, cMk a6] R) ?_ ?_
 ·exact ⟨_, 0, _, upds_of _ _ ⟨rfl, rfl, rfl, rfl, trivial⟩, bt, H⟩
 rintro dt a6 σ du ⟨s4, ρ, rfl, bO, H⟩
 obtain ⟨cg, ch, dv, hM, bc⟩ := M.e_iterN bO
 simp only [zbN] at hM
 clear bO
 refine WD.seq ?_
 refine WD.of ?_
 refine W.region rfl ?_
 refine zC (s4 : Int) (ae.length : Int) (decide ((s4 : Int) < (ae.length : Int))) rfl rfl rfl ?_
 refine s_nil ?_
 refine WD.seq ?_
 refine WD.cond (decide ((s4 : Int) < (ae.length : Int))) rfl (fun a7 => ?_) (fun a7 => ?_)
 ·replace hM := M.e_t hM a7
  simp only [qy1, qy2, qy3, qy4, qy5, qy6, ne_eq, qy7] at a7
  refine WD.of ?_
  refine W.skip ?_
  refine WD.seq ?_
  refine WD.block ?_
  refine WD.seq ?_
  refine WD.of ?_
  refine W.region rfl ?_
  obtain ⟨ck, hM⟩ := M.e_grd hM
  simp only [Bool.and_eq_true, decide_eq_true_eq] at ck
  refine s_val (x_ix (a := ah) (b := I (s4 : Int)) (v := vat ah 2 (Int.toNat (s4 : Int))) rfl rfl (Sl.ix (α := Flood) T28.und T28.size aC (by omega) (by omega))) ?_
  obtain ⟨ay, cm, aJ⟩ := Flood_atA aC (i := (s4 : Int)) (by omega) (by omega)
  replace aJ : Sl _ ay (ae.getD s4 default).stages := aJ
  have dw := aJ.len_le
  refine s_val (x_ld (p := vat ah 2 (Int.toNat (s4 : Int))) (v := .agg #[I ((ae.getD s4 default).spring), ay]) rfl (ld_ag Ag67 Sz67 (At.mono cm (aM.at H)))) ?_
  refine t_alloc (cs := [I 0, .slice none 0 0]) H Al67 rfl ?_
  intro av dx H
  refine t_sw 0 0 [I ((ae.getD s4 default).spring), ay] (.agg #[I ((ae.getD s4 default).spring), ay]) H rfl rfl Sz67 rfl rfl rfl (by simp only [List.all_cons, List.all_nil, Bool.true_and, Bool.and_true, Sl.oc aJ]; try rfl) ?_
  intro dy H
  refine s_nil ?_
  refine WD.seq ?_
  refine WD.of ?_
  refine W.region rfl ?_
  refine t_alloc (cs := [I 0]) H Al3 rfl ?_
  intro aD dz H
  refine t_sw 0 0 [I 0] (I 0) H rfl rfl Sz3 rfl rfl rfl rfl ?_
  intro dA H
  refine s_nil ?_
  refine WD.seq ?_
  refine WD.seq ?_
  refine WD.of ?_
  refine W.region rfl ?_
  refine s_val (x_ld (p := Pq ab) (v := .agg #[ai, aj, ak, ag, I aq, I au, ah]) rfl (ldb_ag (ds := [ai, aj, ak, ag, I aq, I au, ah]) Ag30 Sz30 (H.bl 3) rfl rfl)) ?_
  refine s_val (x_fa (a := Pq av) (v := Pq av) rfl (fa_blk (o := 0) Fd67_0 Sz3)) ?_
  refine s_val (x_ld (p := Pq av) (v := I ((ae.getD s4 default).spring)) rfl (ldb_sc Sc3 (H.bl 1) rfl)) ?_
  refine s_val (x_max (kd := .i64) (a := 0) (b := (ae.getD s4 default).spring) rfl rfl) ?_
  obtain ⟨dB, cn, hM⟩ := M.e_bind hM
  refine s_call cf46 [.agg #[ai, aj, ak, ag, I aq, I au, ah], I (max 0 ((ae.getD s4 default).spring))] rfl (zbe aa ac aA al aq au ae (max 0 ((ae.getD s4 default).spring)) (aQ.app _) aB (aR.app _) aF (aK.app _) aG (aL.app _) aH (aM.app _) aC cn _ (H.gt 5)) ?_
  rintro vq dC ⟨bf, aN, aO, a8, aP, co, hvq, am⟩
  subst co
  subst vq
  try dsimp only at hM
  replace H := H.bk am
  clear am
  refine s_nil ?_
  refine WD.block ?_
  obtain ⟨dD, cp, hM⟩ := M.e_bind hM
  refine WD.range (L := [cBlk aD [I 0] 3, cBlk aP [ai, aj, ak, ag, I aN, I aO, ah] 30, cBlk av [I ((ae.getD s4 default).spring), ay] 67, cBlk aw [I (aa.length : Int)] 3, cBlk ab [ai, aj, ak, ag, I aq, I au, ah] 30, cBlk a8 [I bf] 3]) [Pq a8, Pq aP] (H.pk [6, 2, 1, 3, 4, 5, 0]) rfl cf67 ?_
  intro bg bv bw cq bx H
  have hYC : YieldC Try.prog ([cMk (bv :: a6), cBlk aP [ai, aj, ak, ag, I aN, I aO, ah] 30, cBlk av [I ((ae.getD s4 default).spring), ay] 67, cBlk aw [I (aa.length : Int)] 3, cBlk ab [ai, aj, ak, ag, I aq, I au, ah] 30] ++ R) arII (yJ bg bw (fun s3 bh => bh = [cBlk aD [I s3] 3]) (fun (_ : Unit) _ => False) (fun _ => .ret)) (.func (.yield bg) #[] #[]) (M.yl zaD) := by
   refine YieldC.mk bx (fun s3 bh => bh = [cBlk aD [I s3] 3]) (fun (_ : Unit) _ => False) (fun _ => .ret) zaD (by rintro s3 _ h_; obtain ⟨rfl⟩ := h_; rfl) (fun _ _ h_ => h_.elim) rfl (arII_len rfl) ?_
   intro C_ dE x_ W_ ct
   obtain ⟨x, x2⟩ := x_
   obtain rfl := ct
   refine W.skip ?_
   refine ⟨rfl, rfl, ?_⟩
   intro w R ba bh s_ r cu hM H
   skip
   obtain ⟨s3, cw⟩ : ∃ y_, y_ = s_ := ⟨_, rfl⟩
   subst cw
   obtain ⟨rfl⟩ := cu
   replace aQ := aQ.sub ba
   replace aR := aR.sub ba
   replace aK := aK.sub ba
   replace aL := aL.sub ba
   replace aM := aM.sub ba
   replace hM : (zaD s3 (x, x2)).Ends r := hM
   simp only [zaD] at hM
   replace H := H.pk [0, 2, 3, 4, 5, 1]
   refine W.block ?_
   refine W.region rfl ?_
   refine s_val (x_ld (p := Pq aD) (v := I s3) rfl (ldb_sc Sc3 (H.bl 0) rfl)) ?_
   obtain ⟨cx, hM⟩ := M.e_grd hM
   simp only [Bool.and_eq_true, decide_eq_true_eq] at cx
   refine zR s3 1 (s3 + 1) rfl rfl rfl (by omega) ?_
   refine t_sw 0 0 [I (s3 + 1)] (I (s3 + 1)) H rfl rfl Sz3 rfl rfl rfl rfl ?_
   intro dF H
   refine s_nil ?_
   exact ⟨s3 + 1, [cBlk aD [I (s3 + 1)] 3], (M.e_pure hM).symm, rfl, H.pick [0, 5, 1, 2, 3, 4] (by decide) rfl⟩
  replace H : St w cq (cAll (cObj bg (.loop bw) :: [cBlk aD [I 0] 3]) :: [cBlk a8 [I bf] 3, cMk (bv :: a6), cBlk aP [ai, aj, ak, ag, I aN, I aO, ah] 30, cBlk av [I ((ae.getD s4 default).spring), ay] 67, cBlk aw [I (aa.length : Int)] 3, cBlk ab [ai, aj, ak, ag, I aq, I au, ah] 30]) R := St.bundleB (A := cObj bg (.loop bw) :: [cBlk aD [I 0] 3]) (T := [cBlk a8 [I bf] 3, cMk (bv :: a6), cBlk aP [ai, aj, ak, ag, I aN, I aO, ah] 30, cBlk av [I ((ae.getD s4 default).spring), ay] 67, cBlk aw [I (aa.length : Int)] 3, cBlk ab [ai, aj, ak, ag, I aq, I au, ah] 30]) rfl (H.pk [0, 2, 7, 1, 3, 4, 5, 6])
  refine (zbK (M.yl zaD) (.inl 0) bf aa ac aA al aN aO ae hYC ⟨_, rfl, rfl⟩ (aQ.app _) aB (aR.app _) aF (aK.app _) aG (aL.app _) aH (aM.app _) aC (Has.here (k := 1) rfl) cp _ (H.gt 5)).mono ?_
  rintro vq dG ⟨cy, q0, dH, cz, hvq, am, bP⟩
  subst cz
  replace H := H.back am rfl
  clear am hYC
  rcases cy with s3 | _
  ·try dsimp only at hM
   obtain ⟨_, rfl, rfl⟩ := bP
   refine ⟨_, [cBlk aD [I s3] 3, cBlk aP [ai, aj, ak, ag, I aN, I aO, ah] 30, cBlk av [I ((ae.getD s4 default).spring), ay] 67, cBlk aw [I (aa.length : Int)] 3, cBlk ab [ai, aj, ak, ag, I aq, I au, ah] 30, cBlk a8 [I q0] 3], H.unbundle.pick [0, 3, 1, 4, 5, 6, 7, 2] (by decide) rfl, bx.nb, ?_⟩
   intro dI H
   rw [bx.pd]
   replace H := H.nf
   try simp only []
   replace H := H.pk [0, 1, 3, 4, 5]
   refine WD.block ?_
   refine WD.seq ?_
   refine WD.of ?_
   refine W.region rfl ?_
   refine s_val (x_fa (a := Pq ab) (v := Oq ab 2) rfl (fa_blk (o := 0) Fd30_2 Sz23)) ?_
   refine s_val (x_ld (p := Oq ab 2) (v := ak) rfl (ldb_sc Sc23 (H.bl 4) rfl)) ?_
   refine s_val (x_fa (a := Pq av) (v := Pq av) rfl (fa_blk (o := 0) Fd67_0 Sz3)) ?_
   refine s_val (x_ld (p := Pq av) (v := I ((ae.getD s4 default).spring)) rfl (ldb_sc Sc3 (H.bl 2) rfl)) ?_
   obtain ⟨dJ, cA, hM⟩ := M.e_bind hM
   refine s_call cf84 [ak, I ((ae.getD s4 default).spring)] rfl (zdd aA ((ae.getD s4 default).spring) (aK.app _) aG cA _ (H.gt 5)) ?_
   rintro vq dK ⟨ax, cB, hvq, am⟩
   subst cB
   subst vq
   try dsimp only at hM
   replace H := H.bk am
   clear am
   refine s_val (x_not (b := ax) rfl) ?_
   refine zM (B (!ax)) rfl ?_
   refine g_val (!(!ax)) (gy_f rfl) (fun hg => x_fa (a := Pq av) (v := Oq av 1) rfl (fa_blk (o := 0) Fd67_1 Sz23)) ?_
   refine g_val (!(!ax)) (gy_f rfl) (fun hg => x_ld (p := Oq av 1) (v := ay) (gd_of (c := !(!ax)) hg (Oq av 1)) (ldb_sc Sc23 (H.bl 2) rfl)) ?_
   have dL := (aJ).len_le
   refine g_val (!(!ax)) (gy_f rfl) (fun hg => x_lenS T23.und (gd_of (c := !(!ax)) hg (ay)) aJ) ?_
   refine g_val (!(!ax)) (gy_f rfl) (fun hg => x_ld (p := Pq aD) (v := I s3) rfl (ldb_sc Sc3 (H.bl 1) rfl)) ?_
   refine g_val (!(!ax)) (gy_f rfl) (fun hg => x_cmp (kd := .i64) (a := (((ae.getD s4 default).stages).length : Int)) (b := s3) (r := (((ae.getD s4 default).stages).length : Int) != s3) (gd_of (c := !(!ax)) hg (I (((ae.getD s4 default).stages).length : Int))) (gd_of (c := !(!ax)) hg (I s3)) rfl) ?_
   refine s_val (x_por (b := !ax) (r := (((ae.getD s4 default).stages).length : Int) != s3) rfl rfl (fun hb => gd_of (c := !(!ax)) (by first | exact hb | (rw [hb]; rfl) | simp_all) (B ((((ae.getD s4 default).stages).length : Int) != s3)))) ?_
   refine zA (B ((!ax) || ((((ae.getD s4 default).stages).length : Int) != s3))) rfl ?_
   refine s_nil ?_
   refine WD.cond ((!ax) || ((((ae.getD s4 default).stages).length : Int) != s3)) rfl (fun bz => ?_) (fun bz => ?_)
   ·replace hM := M.e_t hM bz
    refine WD.seq ?_
    refine WD.of ?_
    refine W.region rfl ?_
    refine zA (I 2) rfl ?_
    refine s_nil ?_
    replace H := H.pk [0, 3, 4]
    refine WD.of ?_
    refine W.ret ?_
    have cC := M.e_inr hM bc
    subst cC
    replace hM := bu
    try dsimp only at hM
    refine bodyD_r (H.pk [0, 1, 2]) ?_
    intro dM H
    replace H := H.nf
    have ao := M.e_pure hM
    exact ⟨_, resE_tmp rfl, ⟨2, ao, rfl, (H.pk [])⟩⟩
   replace hM := M.e_f hM bz
   refine WD.seq ?_
   refine WD.of ?_
   refine W.region rfl ?_
   refine s_val (x_fa (a := Pq av) (v := Oq av 1) rfl (fa_blk (o := 0) Fd67_1 Sz23)) ?_
   refine s_val (x_ld (p := Oq av 1) (v := ay) rfl (ldb_sc Sc23 (H.bl 2) rfl)) ?_
   obtain ⟨dN, cD, hM⟩ := M.e_bind hM
   refine s_call cf35 [ay, .func (.func 85) #[] #[]] rfl (zc5 ((ae.getD s4 default).stages) (fun az => zaJ az) (aM.app _) aJ ⟨85, [], rfl, cf85, fun aE bJ bK aT az bL aU bM aV aW => by obtain rfl := Arg.int aV; exact (zc1 az aW aE (St.refl aU)).mono fun aT aE ⟨bN, aX, aY, aZ⟩ => by subst aX; exact ⟨aY, aZ⟩⟩ cD _ (H.gt 5)) ?_
   rintro vq dO ⟨bA, cE, hvq, am⟩
   subst cE
   subst vq
   try dsimp only at hM
   replace H := H.bk am
   clear am
   refine s_val (x_not (b := bA) rfl) ?_
   refine zA (B (!bA)) rfl ?_
   refine s_nil ?_
   refine WD.cond (!bA) rfl (fun bB => ?_) (fun bB => ?_)
   ·replace hM := M.e_t hM bB
    refine WD.seq ?_
    refine WD.of ?_
    refine W.region rfl ?_
    refine zA (I 130) rfl ?_
    refine s_nil ?_
    replace H := H.pk [0, 3, 4]
    refine WD.of ?_
    refine W.ret ?_
    have cF := M.e_inr hM bc
    subst cF
    replace hM := bu
    try dsimp only at hM
    refine bodyD_r (H.pk [0, 1, 2]) ?_
    intro dP H
    replace H := H.nf
    have ao := M.e_pure hM
    exact ⟨_, resE_tmp rfl, ⟨130, ao, rfl, (H.pk [])⟩⟩
   replace hM := M.e_f hM bB
   refine WD.of ?_
   refine W.skip ?_
   refine WD.of ?_
   refine W.region rfl ?_
   refine zR (s4 : Int) 1 ((s4 : Int) + 1) rfl rfl rfl (by omega) ?_
   refine zM (I ((s4 : Int) + 1)) rfl ?_
   refine s_nil ?_
   exact ⟨cg, ch, s4 + 1, _, upds_of _ _ ⟨rfl, rfl, rfl, rfl, trivial⟩, M.e_inl hM bc, (H.pk [3, 4, 0])⟩
  obtain ⟨_, _, h_⟩ := bP; exact h_.elim
 replace hM := M.e_f hM a7
 simp only [qy1, qy2, qy3, qy4, qy5, qy6, ne_eq, qy7] at a7
 refine WD.of ?_
 refine W.exit ?_
 have cG := M.e_inr hM bc
 subst cG
 replace hM := bu
 try dsimp only at hM
 replace H := H.pk [2]
 refine WD.seq ?_
 refine WD.of ?_
 refine W.region rfl ?_
 refine zA (I 0) rfl ?_
 refine s_nil ?_
 refine WD.of ?_
 refine W.ret ?_
 refine bodyD_r (H.pk [0]) ?_
 intro dQ H
 replace H := H.nf
 have ao := M.e_pure hM
 exact ⟨_, resE_tmp rfl, ⟨0, ao, rfl, H⟩⟩

def zap (ac : List Int) (ae : List Span) (ag : List Int) (ah : List Town) (aa : Int) (ab : Int) (ai : List Flood) : M (Int ⊕ (Int × Int × Int)) :=
  M.bind (zbh ac ae ag ah aa ab ai) fun r2 =>
  bif r2 != 0 then (
  M.pure (.inl r2))
  else (
  M.pure (.inr (aa, ab, 0)))
theorem zbA {R : List Chunk} {aw : Cells} {ac : Value} {ax : Cells} {ae : Value} {ay : Cells} {ag : Value} {az : Cells} {ah : Value} {aA : Cells} {ai : Value} (ak : List Int) (al : List Span) (am : List Int) (ao : List Town) (aa : Int) (ab : Int) (aq : List Flood) (aG : Reads R aw) (aH : Sl aw ac ak) (aI : Reads R ax) (aJ : Sl ax ae al) (aK : Reads R ay) (aL : Sl ay ag am) (aM : Reads R az) (aN : Sl az ah ao) (aO : Reads R aA) (aP : Sl aA ai aq) {r : (Int ⊕ (Int × Int × Int))} (hM : (zap ak al am ao aa ab aq).Ends r) (w : World) (H : St w w [] R) : Ret Try.prog 44 #[.agg #[ac, ae, ag, ah, I aa, I ab, ai]] w fun v w' => (∃ (y0 : Int), (.inl y0) = r /\ v = .tuple #[.pointer none, I y0] /\ St w w' [] R) ∨ (∃ (y0 : Int) (y1 : Int) (y2 : Int) (aB : Nat) (aC : Nat) (aQ : Base), (.inr (y0, y1, y2)) = r /\ v = .tuple #[Pq aB, I y2] /\ St w w' [cBlk aB [ac, ae, ag, ah, I y0, I y1, ai, .map (some aC)] 86, cMem encDm aC aQ (zaa ak al am ao y0 y1 aq)] R) := by
 refine ret_of_W Try.func44 rfl rfl rfl ?_
 refine W.seq ?_
 refine W.region rfl ?_
 refine t_box (v := .agg #[ac, ae, ag, ah, I aa, I ab, ai]) (cs := [ac, ae, ag, ah, I aa, I ab, ai]) H rfl rfl ?_
 intro aD aU H
 refine zA (.pointer none) rfl ?_
 refine zA (I 0) rfl ?_
 refine s_nil ?_
 refine W.seq ?_
 refine W.seq ?_
 refine W.region rfl ?_
 refine s_val (x_ld (p := Pq aD) (v := .agg #[ac, ae, ag, ah, I aa, I ab, ai]) rfl (ldb_ag (ds := [ac, ae, ag, ah, I aa, I ab, ai]) Ag30 Sz30 (H.bl 0) rfl rfl)) ?_
 obtain ⟨aV, aR, hM⟩ := M.e_bind hM
 refine s_call cf66 [.agg #[ac, ae, ag, ah, I aa, I ab, ai]] rfl (zdh ak al am ao aa ab aq (aG.app _) aH (aI.app _) aJ (aK.app _) aL (aM.app _) aN (aO.app _) aP aR _ (H.gt 1)) ?_
 rintro vq aW ⟨r2, aS, hvq, aE⟩
 subst aS
 subst vq
 try dsimp only at hM
 replace H := H.bk aE
 clear aE
 refine zA (I r2) rfl ?_
 refine s_nil ?_
 refine W.seq ?_
 refine W.region rfl ?_
 refine zM (I r2) rfl ?_
 refine zC r2 0 (r2 != 0) rfl rfl rfl ?_
 refine s_nil ?_
 refine W.cond (r2 != 0) rfl (fun au => ?_) (fun au => ?_)
 ·replace hM := M.e_t hM au
  simp only [qy1, qy2, qy3, qy4, qy5, qy6, ne_eq, qy7] at au
  refine W.seq ?_
  refine W.region rfl ?_
  refine zM (I r2) rfl ?_
  refine zA (.pointer none) rfl ?_
  refine zA (I r2) rfl ?_
  refine s_nil ?_
  refine W.ret ?_
  have av := M.e_pure hM
  exact ⟨_, resE_tmp2 rfl, .inl (⟨r2, av, rfl, (H.pk [])⟩)⟩
 replace hM := M.e_f hM au
 simp only [qy1, qy2, qy3, qy4, qy5, qy6, ne_eq, qy7] at au
 refine W.skip ?_
 refine W.seq ?_
 refine W.region rfl ?_
 refine s_val (x_ld (p := Pq aD) (v := .agg #[ac, ae, ag, ah, I aa, I ab, ai]) rfl (ldb_ag (ds := [ac, ae, ag, ah, I aa, I ab, ai]) Ag30 Sz30 (H.bl 0) rfl rfl)) ?_
 refine t_mkmem encDm (zaa ak al am ao aa ab aq) H ?_
 intro aj aT aX H
 refine s_val (x_bld (ps := [(0, .agg #[ac, ae, ag, ah, I aa, I ab, ai]), (1, .map (some aj))]) (zs := [.slice none 0 0, .slice none 0 0, .slice none 0 0, .slice none 0 0, I 0, I 0, .slice none 0 0, .map none]) (L' := [ac, ae, ag, ah, I aa, I ab, ai, .map (some aj)]) rfl Try.underlying86 Al86 rfl (Bd86 Try.underlying86) (.cons (cs := [ac, ae, ag, ah, I aa, I ab, ai]) rfl rfl rfl rfl rfl <| .cons (cs := [.map (some aj)]) rfl rfl rfl rfl rfl <| .nil)) ?_
 refine t_box (v := .agg #[ac, ae, ag, ah, I aa, I ab, ai, .map (some aj)]) (cs := [ac, ae, ag, ah, I aa, I ab, ai, .map (some aj)]) H rfl rfl ?_
 intro aF aY H
 refine zA (Pq aF) rfl ?_
 refine zA (I 0) rfl ?_
 refine s_nil ?_
 refine W.ret ?_
 have av := M.e_pure hM
 exact ⟨_, resE_tmp2 rfl, .inr (⟨aa, ab, 0, aF, aj, aT, av, rfl, (H.pk [0, 1])⟩)⟩

def zbj (ac : List Int) (ae : List Span) (aa : List Int) (ab : List Town) (ag : Int) (ah : Int) (ai : List Flood) (s2 : Nat) : (Nat × (List Dem)) -> M ((Nat × (List Dem)) ⊕ ((List Dem) × (List Dem))) := fun (s, l4) =>
  bif decide ((s : Int) < (ab.length : Int)) then (
  M.grd (decide ((s : Int) < (ab.length : Int))) <|
  M.bind (zay ac ae aa ab ag ah ai (aa.getD s2 0) ((ab.getD s default).station)) fun (aj, ak, r1) =>
  bif r1 then (
  M.grd (decide ((l4.length + ([(⟨(aa.getD s2 0 : Int), (s : Int)⟩ : Dem)]).length) * 16 <= 140737488355328)) <|
  M.pure (.inl (s + 1, l4 ++ ([(⟨(aa.getD s2 0 : Int), (s : Int)⟩ : Dem)]))))
  else (
  M.pure (.inl (s + 1, l4))))
  else (
  M.pure (.inr (l4, l4)))
def zbJ (ab : List Int) (ac : List Span) (aa : List Int) (ae : List Town) (ag : Int) (ah : Int) (ai : List Flood) : (Nat × (List Dem)) -> M ((Nat × (List Dem)) ⊕ ((List Dem) × (List Dem))) := fun (s2, l6) =>
  bif decide ((s2 : Int) < (aa.length : Int)) then (
  M.grd (decide ((s2 : Int) < (aa.length : Int))) <|
  M.bind (M.iter (zbj ab ac aa ae ag ah ai s2) (0, l6)) fun (l2, l5) =>
  M.pure (.inl (s2 + 1, l5)))
  else (
  M.pure (.inr (l6, l6)))
def zal (aa : List Int) (ab : List Span) (ac : List Int) (ae : List Town) (ag : Int) (ah : Int) (ai : List Flood) : M (List Dem) :=
  M.bind (M.iter (zbJ aa ab ac ae ag ah ai) (0, [])) fun (l7, l8) =>
  M.pure l8
theorem zbO {R : List Chunk} {ac : Nat} {aF : Cells} {aG : Value} {aH : Cells} {aI : Value} {aJ : Cells} {ae : Value} {aK : Cells} {ag : Value} {aL : Cells} {aM : Value} {aW : Nat} (al : List Int) (am : List Span) (aa : List Int) (ab : List Town) (ao : Int) (aq : Int) (au : List Flood) (aX : Reads R aF) (aY : Sl aF aG al) (aZ : Reads R aH) (a6 : Sl aH aI am) (aN : Reads R aJ) (av : Sl aJ ae aa) (aO : Reads R aK) (aw : Sl aK ag ab) (a7 : Reads R aL) (a8 : Sl aL aM au) (az : Has R (cBlk ac [aG, aI, ae, ag, I ao, I aq, aM, .map (some aW)] 86)) {r : (List Dem)} (hM : (zal al am aa ab ao aq au).Ends r) (w : World) (H : St w w [] R) : Ret Try.prog 51 #[Pq ac] w fun v w' => ∃ (y0 : List Dem) (u0 : Value), y0 = r /\ v = u0 /\ St w w' [cOwn (α := Dem) 62 u0 y0] R := by
 refine ret_of_W Try.func51 rfl rfl rfl ?_
 refine W.seq ?_
 refine W.region rfl ?_
 refine zA (.slice none 0 0) rfl ?_
 refine s_nil ?_
 refine W.seq ?_
 refine W.region rfl ?_
 refine zA (.slice none 0 0) rfl ?_
 refine s_nil ?_
 refine W.seq ?_
 refine W.seq ?_
 refine W.region rfl ?_
 refine zM (Pq ac) rfl ?_
 refine s_val (x_nc (a := ⟨ac, 0, none⟩) rfl) ?_
 refine s_val (x_fa (a := Pq ac) (v := Pq ac) rfl (fa_blk (o := 0) Fd86_0 Sz30)) ?_
 refine s_val (x_fa (a := Pq ac) (v := Oq ac 2) rfl (fa_blk (o := 0) Fd30_2 Sz23)) ?_
 refine s_val (x_ld (p := Oq ac 2) (v := ae) rfl (ldb_sc Sc23 (az.blk H) rfl)) ?_
 have bv := (av).len_le
 refine s_val (x_lenS T23.und rfl av) ?_
 refine zM (I 0) rfl ?_
 refine s_nil ?_
 refine W.block ?_
 replace H := H.nilOwn (α := Dem) 62
 obtain ⟨ba, aA, bb⟩ := M.e_bind hM
 obtain ⟨bc, aA⟩ := M.e_iter aA
 refine W.loop (fun m σ W => ∃ (s2 : Nat) (l6 : List Dem) (ah : Value) (ρ : Env), σ = upds ρ [(0, Pq ac), (3, ah), (14, ae), (15, I (aa.length : Int)), (16, I (s2 : Int))] /\ M.iterN (zbJ al am aa ab ao aq au) m (s2, l6) = some ba /\ St w W [cOwn (α := Dem) 62 ah l6] R) ?_ ?_
 ·exact ⟨_, 0, [], (.slice none 0 0), _, upds_of _ _ ⟨rfl, rfl, rfl, rfl, rfl, trivial⟩, aA, H⟩
 rintro bw σ bx ⟨s2, l6, ah, ρ, rfl, aP, H⟩
 obtain ⟨bf, bg, bz, hM, aQ⟩ := M.e_iterN aP
 simp only [zbJ] at hM
 clear aP
 refine W.seq ?_
 refine W.region rfl ?_
 refine zC (s2 : Int) (aa.length : Int) (decide ((s2 : Int) < (aa.length : Int))) rfl rfl rfl ?_
 refine s_nil ?_
 refine W.seq ?_
 refine W.cond (decide ((s2 : Int) < (aa.length : Int))) rfl (fun ax => ?_) (fun ax => ?_)
 ·replace hM := M.e_t hM ax
  simp only [qy1, qy2, qy3, qy4, qy5, qy6, ne_eq, qy7] at ax
  refine W.skip ?_
  refine W.seq ?_
  refine W.block ?_
  refine W.seq ?_
  refine W.region rfl ?_
  obtain ⟨bh, hM⟩ := M.e_grd hM
  simp only [Bool.and_eq_true, decide_eq_true_eq] at bh
  refine s_val (x_ix (a := ae) (b := I (s2 : Int)) (v := vat ae 1 (Int.toNat (s2 : Int))) rfl rfl (Sl.ix (α := Int) T23.und T23.size av (by omega) (by omega))) ?_
  refine s_val (x_ld (p := vat ae 1 (Int.toNat (s2 : Int))) (v := I (aa.getD s2 0)) rfl (ld_sc Sc3 (At.mono (Int_at av (i := (s2 : Int)) (by omega) (by omega)) (aN.at H)))) ?_
  refine zA (I (aa.getD s2 0)) rfl ?_
  refine s_nil ?_
  refine W.seq ?_
  refine W.region rfl ?_
  refine zM (Pq ac) rfl ?_
  refine s_val (x_nc (a := ⟨ac, 0, none⟩) rfl) ?_
  refine s_val (x_fa (a := Pq ac) (v := Pq ac) rfl (fa_blk (o := 0) Fd86_0 Sz30)) ?_
  refine s_val (x_fa (a := Pq ac) (v := Oq ac 3) rfl (fa_blk (o := 0) Fd30_3 Sz25)) ?_
  refine s_val (x_ld (p := Oq ac 3) (v := ag) rfl (ldb_sc Sc25 (az.blk H) rfl)) ?_
  have bA := (aw).len_le
  refine s_val (x_lenS T25.und rfl aw) ?_
  refine zM (I 0) rfl ?_
  refine s_nil ?_
  refine W.block ?_
  obtain ⟨bi, aB, bj⟩ := M.e_bind hM
  obtain ⟨bc, aB⟩ := M.e_iter aB
  refine W.loop (fun m σ W => ∃ (s : Nat) (l4 : List Dem) (ai : Value) (ρ : Env), σ = upds ρ [(0, Pq ac), (3, ai), (5, I (aa.getD s2 0)), (14, ae), (15, I (aa.length : Int)), (16, I (s2 : Int)), (24, ag), (25, I (ab.length : Int)), (26, I (s : Int))] /\ M.iterN (zbj al am aa ab ao aq au s2) m (s, l4) = some bi /\ St w W [cOwn (α := Dem) 62 ai l4] R) ?_ ?_
  ·exact ⟨_, 0, l6, ah, _, upds_of _ _ ⟨rfl, rfl, rfl, rfl, rfl, rfl, rfl, rfl, rfl, trivial⟩, aB, H⟩
  rintro bB σ bC ⟨s, l4, ai, ρ, rfl, aR, H⟩
  obtain ⟨aS, aT, bD, hM, aC⟩ := M.e_iterN aR
  simp only [zbj] at hM
  clear aR
  refine W.seq ?_
  refine W.region rfl ?_
  refine zC (s : Int) (ab.length : Int) (decide ((s : Int) < (ab.length : Int))) rfl rfl rfl ?_
  refine s_nil ?_
  refine W.seq ?_
  refine W.cond (decide ((s : Int) < (ab.length : Int))) rfl (fun ay => ?_) (fun ay => ?_)
  ·replace hM := M.e_t hM ay
   simp only [qy1, qy2, qy3, qy4, qy5, qy6, ne_eq, qy7] at ay
   refine W.skip ?_
   refine W.seq ?_
   refine W.block ?_
   refine W.seq ?_
   refine W.region rfl ?_
   refine zM (I (s : Int)) rfl ?_
   obtain ⟨bm, hM⟩ := M.e_grd hM
   simp only [Bool.and_eq_true, decide_eq_true_eq] at bm
   refine s_val (x_ix (a := ag) (b := I (s : Int)) (v := vat ag 3 (Int.toNat (s : Int))) rfl rfl (Sl.ix (α := Town) T25.und T25.size aw (by omega) (by omega))) ?_
   refine s_val (x_ld (p := vat ag 3 (Int.toNat (s : Int))) (v := .agg #[I ((ab.getD s default).station), I ((ab.getD s default).lead), I ((ab.getD s default).alarm)]) rfl (ld_ag Ag54 Sz54 (At.mono (Town_atA aw (i := (s : Int)) (by omega) (by omega)) (aO.at H)))) ?_
   refine t_alloc (cs := [I 0, I 0, I 0]) H Al54 rfl ?_
   intro aD bE H
   refine zA (I (s : Int)) rfl ?_
   refine t_sw 0 0 [I ((ab.getD s default).station), I ((ab.getD s default).lead), I ((ab.getD s default).alarm)] (.agg #[I ((ab.getD s default).station), I ((ab.getD s default).lead), I ((ab.getD s default).alarm)]) H rfl rfl Sz54 rfl rfl rfl rfl ?_
   intro bF H
   refine s_nil ?_
   refine W.seq ?_
   refine W.region rfl ?_
   refine zM (Pq ac) rfl ?_
   refine zM (I (aa.getD s2 0)) rfl ?_
   refine s_val (x_fa (a := Pq aD) (v := Pq aD) rfl (fa_blk (o := 0) Fd54_0 Sz3)) ?_
   refine s_val (x_ld (p := Pq aD) (v := I ((ab.getD s default).station)) rfl (ldb_sc Sc3 (H.bl 0) rfl)) ?_
   obtain ⟨bG, bn, hM⟩ := M.e_bind hM
   refine s_call cf47 [Pq ac, I (aa.getD s2 0), I ((ab.getD s default).station)] rfl (zcm al am aa ab ao aq au (aa.getD s2 0) ((ab.getD s default).station) (aX.app _) aY (aZ.app _) a6 (aN.app _) av (aO.app _) aw (a7.app _) a8 (az.app _) bn _ (H.gt 2)) ?_
   rintro vq bH ⟨aj, ak, r1, bo, hvq, aU⟩
   subst bo
   subst vq
   try dsimp only at hM
   replace H := H.bk aU
   clear aU
   refine zM (.tuple #[.agg #[I aj, I ak], B r1]) rfl ?_
   refine zX [.agg #[I aj, I ak], B r1] (.agg #[I aj, I ak]) rfl rfl ?_
   refine zX [.agg #[I aj, I ak], B r1] (B r1) rfl rfl ?_
   refine t_alloc (cs := [I 0, I 0]) H Al27 rfl ?_
   intro bI bJ H
   refine t_sw 0 0 [I aj, I ak] (.agg #[I aj, I ak]) H rfl rfl Sz27 rfl rfl rfl rfl ?_
   intro bK H
   refine zA (B r1) rfl ?_
   refine s_nil ?_
   replace H := H.pk [2]
   refine W.seq ?_
   refine W.region rfl ?_
   refine zM (B r1) rfl ?_
   refine s_nil ?_
   refine W.cond r1 rfl (fun aE => ?_) (fun aE => ?_)
   ·replace hM := M.e_t hM aE
    refine W.region rfl ?_
    refine zM ai rfl ?_
    refine zM (I (aa.getD s2 0)) rfl ?_
    refine zM (I (s : Int)) rfl ?_
    refine s_val (x_bld (ps := [(0, I (aa.getD s2 0)), (1, I (s : Int))]) (zs := [I 0, I 0]) (L' := [I (aa.getD s2 0), I (s : Int)]) rfl Try.underlying62 Al62 rfl (Bd62 Try.underlying62) (.cons (cs := [I (aa.getD s2 0)]) rfl rfl rfl rfl rfl <| .cons (cs := [I (s : Int)]) rfl rfl rfl rfl rfl <| .nil)) ?_
    refine t_bs (α := Dem) T57 [.agg #[I (aa.getD s2 0), I (s : Int)]] [(⟨(aa.getD s2 0 : Int), (s : Int)⟩ : Dem)] H rfl (.cons rfl (Flat.rep_enc _ (⟨(aa.getD s2 0 : Int), (s : Int)⟩ : Dem)) <| .nil) rfl rfl rfl ?_
    intro bp bL H
    obtain ⟨bq, hM⟩ := M.e_grd hM
    simp only [Bool.and_eq_true, decide_eq_true_eq] at bq
    refine t_app (α := Dem) (k := 1) (l := l4) (l2 := [(⟨(aa.getD s2 0 : Int), (s : Int)⟩ : Dem)]) (l' := l4 ++ ([(⟨(aa.getD s2 0 : Int), (s : Int)⟩ : Dem)])) (vy := bp) T57 rfl H rfl rfl rfl (H.os 0) (H.ol 0) (rfl) (by first | omega | (simp only [List.length_nil] at *; omega)) ?_
    intro aV bM H
    replace H := H.nf
    refine zA aV rfl ?_
    refine s_nil ?_
    refine W.region rfl ?_
    refine zR (s : Int) 1 ((s : Int) + 1) rfl rfl rfl (by omega) ?_
    refine zM (I ((s : Int) + 1)) rfl ?_
    refine s_nil ?_
    exact ⟨aS, aT, s + 1, l4 ++ ([(⟨(aa.getD s2 0 : Int), (s : Int)⟩ : Dem)]), aV, _, upds_of _ _ ⟨rfl, rfl, rfl, rfl, rfl, rfl, rfl, rfl, rfl, trivial⟩, M.e_inl hM aC, (H.pk [1])⟩
   replace hM := M.e_f hM aE
   refine W.skip ?_
   refine W.region rfl ?_
   refine zR (s : Int) 1 ((s : Int) + 1) rfl rfl rfl (by omega) ?_
   refine zM (I ((s : Int) + 1)) rfl ?_
   refine s_nil ?_
   exact ⟨aS, aT, s + 1, l4, ai, _, upds_of _ _ ⟨rfl, rfl, rfl, rfl, rfl, rfl, rfl, rfl, rfl, trivial⟩, M.e_inl hM aC, H⟩
  replace hM := M.e_f hM ay
  simp only [qy1, qy2, qy3, qy4, qy5, qy6, ne_eq, qy7] at ay
  refine W.exit ?_
  have br := M.e_inr hM aC
  subst br
  replace hM := bj
  try dsimp only at hM
  refine W.region rfl ?_
  refine zR (s2 : Int) 1 ((s2 : Int) + 1) rfl rfl rfl (by omega) ?_
  refine zM (I ((s2 : Int) + 1)) rfl ?_
  refine s_nil ?_
  exact ⟨bf, bg, s2 + 1, l4, ai, _, upds_of _ _ ⟨rfl, rfl, rfl, rfl, rfl, trivial⟩, M.e_inl hM aQ, H⟩
 replace hM := M.e_f hM ax
 simp only [qy1, qy2, qy3, qy4, qy5, qy6, ne_eq, qy7] at ax
 refine W.exit ?_
 have bt := M.e_inr hM aQ
 subst bt
 replace hM := bb
 try dsimp only at hM
 refine W.seq ?_
 refine W.region rfl ?_
 refine zM ah rfl ?_
 refine zA ah rfl ?_
 refine s_nil ?_
 refine W.ret ?_
 have bu := M.e_pure hM
 exact ⟨_, resE_tmp rfl, ⟨l6, ah, bu, rfl, H⟩⟩

def zbE (s : List Dem) (f : Dem -> M Bool) : Nat -> M (Nat ⊕ (Int ⊕ Unit)) := fun s2 =>
  bif decide ((s2 : Int) < (s.length : Int)) then (
  M.grd (decide ((s2 : Int) < (s.length : Int))) <|
  M.bind (f (s.getD s2 default)) fun r2 =>
  bif r2 then (
  M.pure (.inr (.inl (s2 : Int))))
  else (
  M.pure (.inl (s2 + 1))))
  else (
  M.pure (.inr (.inr ())))
def zcy (s : List Dem) (f : Dem -> M Bool) : M Int :=
  M.bind (M.iter (zbE s f) 0) fun x_ => match x_ with
  | (.inl s3) => (
  M.pure s3)
  | (.inr (_ : Unit)) => (
  M.pure (-1))
theorem zdz {R : List Chunk} {ak : Cells} {aa : Value} {ac : Value} (s : List Dem) (f : Dem -> M Bool) (ao : Reads R ak) (ae : Sl ak aa s) (aq : FnM Try.prog R ac f) {r : Int} (hM : (zcy s f).Ends r) (w : World) (H : St w w [] R) : Ret Try.prog 76 #[aa, ac] w fun v w' => ∃ (y0 : Int), y0 = r /\ v = I y0 /\ St w w' [] R := by
 refine ret_of_W Try.func76 rfl rfl rfl ?_
 refine W.seq ?_
 refine W.region rfl ?_
 refine zA (I 0) rfl ?_
 refine s_nil ?_
 refine W.seq ?_
 refine W.seq ?_
 refine W.region rfl ?_
 refine zM aa rfl ?_
 have aB := (ae).len_le
 refine s_val (x_lenS T57.und rfl ae) ?_
 refine zM (I 0) rfl ?_
 refine s_nil ?_
 refine W.block ?_
 obtain ⟨au, ag, al⟩ := M.e_bind hM
 obtain ⟨aC, ag⟩ := M.e_iter ag
 refine W.loop (fun m σ W => ∃ (s2 : Nat) (ρ : Env), σ = upds ρ [(0, aa), (1, ac), (7, I (s.length : Int)), (8, I (s2 : Int))] /\ M.iterN (zbE s f) m s2 = some au /\ St w W [] R) ?_ ?_
 ·exact ⟨_, 0, _, upds_of _ _ ⟨rfl, rfl, rfl, rfl, trivial⟩, ag, H⟩
 rintro aD σ aE ⟨s2, ρ, rfl, am, H⟩
 obtain ⟨av, aw, aF, hM, ah⟩ := M.e_iterN am
 simp only [zbE] at hM
 clear am
 refine W.seq ?_
 refine W.region rfl ?_
 refine zC (s2 : Int) (s.length : Int) (decide ((s2 : Int) < (s.length : Int))) rfl rfl rfl ?_
 refine s_nil ?_
 refine W.seq ?_
 refine W.cond (decide ((s2 : Int) < (s.length : Int))) rfl (fun ab => ?_) (fun ab => ?_)
 ·replace hM := M.e_t hM ab
  simp only [qy1, qy2, qy3, qy4, qy5, qy6, ne_eq, qy7] at ab
  refine W.skip ?_
  refine W.seq ?_
  refine W.block ?_
  refine W.seq ?_
  refine W.region rfl ?_
  refine zM (I (s2 : Int)) rfl ?_
  refine zA (I (s2 : Int)) rfl ?_
  refine s_nil ?_
  refine W.seq ?_
  refine W.region rfl ?_
  refine zM ac rfl ?_
  refine zM aa rfl ?_
  refine zM (I (s2 : Int)) rfl ?_
  obtain ⟨ax, hM⟩ := M.e_grd hM
  simp only [Bool.and_eq_true, decide_eq_true_eq] at ax
  refine s_val (x_ix (a := aa) (b := I (s2 : Int)) (v := vat aa 2 (Int.toNat (s2 : Int))) rfl rfl (Sl.ix (α := Dem) T57.und T57.size ae (by omega) (by omega))) ?_
  refine s_val (x_ld (p := vat aa 2 (Int.toNat (s2 : Int))) (v := .agg #[I ((s.getD s2 default).spring), I ((s.getD s2 default).town)]) rfl (ld_ag Ag62 Sz62 (At.mono (Dem_atA ae (i := (s2 : Int)) (by omega) (by omega)) (ao.at H)))) ?_
  obtain ⟨r2, ay, hM⟩ := M.e_bind hM
  refine t_callM H aq rfl rfl (s.getD s2 default) Reads.none ⟨_, rfl, rfl⟩ ay ?_
  intro aG H
  refine s_nil ?_
  refine W.cond r2 rfl (fun ai => ?_) (fun ai => ?_)
  ·replace hM := M.e_t hM ai
   refine W.seq ?_
   refine W.region rfl ?_
   refine zM (I (s2 : Int)) rfl ?_
   refine zA (I (s2 : Int)) rfl ?_
   refine s_nil ?_
   refine W.ret ?_
   have az := M.e_inr hM ah
   subst az
   replace hM := al
   try dsimp only at hM
   have aj := M.e_pure hM
   exact ⟨_, resE_tmp rfl, ⟨(s2 : Int), aj, rfl, H⟩⟩
  replace hM := M.e_f hM ai
  refine W.skip ?_
  refine W.region rfl ?_
  refine zR (s2 : Int) 1 ((s2 : Int) + 1) rfl rfl rfl (by omega) ?_
  refine zM (I ((s2 : Int) + 1)) rfl ?_
  refine s_nil ?_
  exact ⟨av, aw, s2 + 1, _, upds_of _ _ ⟨rfl, rfl, rfl, rfl, trivial⟩, M.e_inl hM ah, H⟩
 replace hM := M.e_f hM ab
 simp only [qy1, qy2, qy3, qy4, qy5, qy6, ne_eq, qy7] at ab
 refine W.exit ?_
 have aA := M.e_inr hM ah
 subst aA
 replace hM := al
 try dsimp only at hM
 refine W.seq ?_
 refine W.region rfl ?_
 refine zA (I (-1)) rfl ?_
 refine s_nil ?_
 refine W.ret ?_
 have aj := M.e_pure hM
 exact ⟨_, resE_tmp rfl, ⟨(-1), aj, rfl, H⟩⟩

def zcf (s : List Dem) (f : Dem -> M Bool) : M Bool :=
  M.bind (zcy s f) fun r2 =>
  M.pure (decide (0 <= r2))
theorem zdv {R : List Chunk} {ac : Cells} {aa : Value} {ab : Value} (s : List Dem) (f : Dem -> M Bool) (ag : Reads R ac) (ah : Sl ac aa s) (ai : FnM Try.prog R ab f) {r : Bool} (hM : (zcf s f).Ends r) (w : World) (H : St w w [] R) : Ret Try.prog 74 #[aa, ab] w fun v w' => ∃ (y0 : Bool), y0 = r /\ v = B y0 /\ St w w' [] R := by
 refine ret_of_W Try.func74 rfl rfl rfl ?_
 refine W.seq ?_
 refine W.region rfl ?_
 refine zA (B false) rfl ?_
 refine s_nil ?_
 refine W.seq ?_
 refine W.region rfl ?_
 refine zM aa rfl ?_
 refine zM ab rfl ?_
 obtain ⟨am, aj, hM⟩ := M.e_bind hM
 refine s_call cf76 [aa, ab] rfl (zdz s f (ag.app _) ah (ai.app _) aj _ (H.gt 0)) ?_
 rintro vq ao ⟨r2, ak, hvq, ae⟩
 subst ak
 subst vq
 try dsimp only at hM
 replace H := H.bk ae
 clear ae
 refine zC r2 0 (decide (0 <= r2)) rfl rfl rfl ?_
 refine zA (B (decide (0 <= r2))) rfl ?_
 refine s_nil ?_
 refine W.ret ?_
 have al := M.e_pure hM
 exact ⟨_, resE_tmp rfl, ⟨(decide (0 <= r2)), al, rfl, H⟩⟩

def zbR (x : Dem) (aa : Int) (ab : Int) : M Bool :=
  M.pure (decide (x = (⟨(aa : Int), (ab : Int)⟩ : Dem)))
theorem zdq {R : List Chunk} {ac : Nat} (x : Dem) (aa : Int) (ab : Int) (ae : Has R (cBlk ac [I aa, I ab] 62)) {r : Bool} (hM : (zbR x aa ab).Ends r) (w : World) (H : St w w [] R) : Ret Try.prog 75 #[.agg #[I x.spring, I x.town], Pq ac] w fun v w' => ∃ (y0 : Bool), y0 = r /\ v = B y0 /\ St w w' [] R := by
 refine ret_of_W Try.func75 rfl rfl rfl ?_
 refine W.seq ?_
 refine W.region rfl ?_
 refine t_box (v := .agg #[I x.spring, I x.town]) (cs := [I x.spring, I x.town]) H rfl rfl ?_
 intro ag ai H
 refine zA (B false) rfl ?_
 refine s_nil ?_
 refine W.seq ?_
 refine W.region rfl ?_
 refine s_val (x_ld (p := Pq ag) (v := .agg #[I x.spring, I x.town]) rfl (ldb_ag (ds := [I x.spring, I x.town]) Ag62 Sz62 (H.bl 0) rfl rfl)) ?_
 refine s_val (x_ld (p := Pq ac) (v := .agg #[I aa, I ab]) rfl (ldb_ag (ds := [I aa, I ab]) Ag62 Sz62 (ae.blk H) rfl rfl)) ?_
 refine s_val (x_eqS (eqT62 x (⟨(aa : Int), (ab : Int)⟩ : Dem) _) gdT62 rfl rfl) ?_
 refine zA (B (decide (x = (⟨(aa : Int), (ab : Int)⟩ : Dem)))) rfl ?_
 refine s_nil ?_
 refine W.ret ?_
 have ah := M.e_pure hM
 exact ⟨_, resE_tmp rfl, ⟨(decide (x = (⟨(aa : Int), (ab : Int)⟩ : Dem))), ah, rfl, (H.pk [])⟩⟩

def zb8 (aa : List Int) (ab : List Span) (ac : List Int) (ae : List Town) (ag : Int) (ah : Int) (ai : List Flood) (d : Dem) : M Bool :=
  M.bind (zal aa ab ac ae ag ah ai) fun r2 =>
  M.bind (zcf r2 (fun aj => zbR aj d.spring d.town)) fun r3 =>
  M.pure r3
theorem zdi {R : List Chunk} {ab : Nat} {ao : Cells} {aq : Value} {au : Cells} {av : Value} {aw : Cells} {ax : Value} {ay : Cells} {az : Value} {aA : Cells} {aB : Value} {aD : Nat} (ac : List Int) (ae : List Span) (ag : List Int) (ah : List Town) (ai : Int) (aj : Int) (ak : List Flood) (d : Dem) (aE : Reads R ao) (aF : Sl ao aq ac) (aG : Reads R au) (aH : Sl au av ae) (aI : Reads R aw) (aJ : Sl aw ax ag) (aK : Reads R ay) (aL : Sl ay az ah) (aM : Reads R aA) (aN : Sl aA aB ak) (aO : Has R (cBlk ab [aq, av, ax, az, I ai, I aj, aB, .map (some aD)] 86)) {r : Bool} (hM : (zb8 ac ae ag ah ai aj ak d).Ends r) (w : World) (H : St w w [] R) : Ret Try.prog 52 #[Pq ab, .agg #[I d.spring, I d.town]] w fun v w' => ∃ (y0 : Bool), y0 = r /\ v = B y0 /\ St w w' [] R := by
 refine ret_of_W Try.func52 rfl rfl rfl ?_
 refine W.seq ?_
 refine W.region rfl ?_
 refine t_box (v := .agg #[I d.spring, I d.town]) (cs := [I d.spring, I d.town]) H rfl rfl ?_
 intro al a8 H
 refine zA (B false) rfl ?_
 refine s_nil ?_
 refine W.seq ?_
 refine W.region rfl ?_
 refine zM (Pq ab) rfl ?_
 obtain ⟨ba, aP, hM⟩ := M.e_bind hM
 refine s_call cf51 [Pq ab] rfl (zbO ac ae ag ah ai aj ak (aE.app _) aF (aG.app _) aH (aI.app _) aJ (aK.app _) aL (aM.app _) aN (aO.app _) aP _ (H.gt 1)) ?_
 rintro vq bb ⟨r2, aQ, aR, hvq, aa⟩
 subst aR
 subst vq
 try dsimp only at hM
 replace H := H.bk aa
 clear aa
 refine s_val (x_mf (fs := []) (cs := [Pq al]) rfl rfl) ?_
 obtain ⟨bc, aS, hM⟩ := M.e_bind hM
 refine s_call cf74 [aQ, .func (.func 75) #[] #[Pq al]] rfl (zdv r2 (fun am => zbR am d.spring d.town) (rdo 0) (H.os 0) ⟨75, [Pq al], rfl, cf75, fun aC bf bg aT am bh aU bi aV aW => by obtain rfl := Dem_arg aV; exact (zdq am d.spring d.town (Has.app (Has.here (k := 1) rfl) _) aW aC (St.refl aU)).mono fun aT aC ⟨bj, aX, aY, aZ⟩ => by subst aX; exact ⟨aY, aZ⟩⟩ aS _ (H.gt 2)) ?_
 rintro vq bm ⟨r3, a6, hvq, aa⟩
 subst a6
 subst vq
 try dsimp only at hM
 replace H := H.bk aa
 clear aa
 refine zA (B r3) rfl ?_
 refine s_nil ?_
 replace H := H.pk []
 refine W.ret ?_
 have a7 := M.e_pure hM
 exact ⟨_, resE_tmp rfl, ⟨r3, a7, rfl, H⟩⟩

def zaq (aa : List Int) (ab : List Span) (ac : List Int) (ae : List Town) (aj : Int) (ak : Int) (ag : List Flood) (d : Dem) : M ((List Int) × Int) :=
  M.bind (zap aa ab ac ae aj ak ag) fun x_ => match x_ with
  | (.inl r1) => (
  bif r1 != 0 then (
  M.pure (([]), r1))
  else (
  M.fail))
  | (.inr (ah, ai, al)) => (
  bif al != 0 then (
  M.fail)
  else (
  M.bind (zb8 aa ab ac ae ah ai ag d) fun r2 =>
  bif !r2 then (
  M.pure (([]), 2))
  else (
  M.bind (zaa aa ab ac ae ah ai ag d) fun r3 =>
  M.grd (decide (r3.length * 8 <= 140737488355328)) <|
  M.pure (r3, 0))))
theorem zbv {R : List Chunk} {aK : Cells} {ah : Value} {aL : Cells} {ai : Value} {aM : Cells} {aj : Value} {aN : Cells} {ak : Value} {aO : Cells} {al : Value} (am : List Int) (ao : List Span) (aq : List Int) (au : List Town) (ae : Int) (ag : Int) (av : List Flood) (d : Dem) (az : Reads R aK) (aA : Sl aK ah am) (aB : Reads R aL) (aC : Sl aL ai ao) (aD : Reads R aM) (aE : Sl aM aj aq) (aF : Reads R aN) (aG : Sl aN ak au) (aH : Reads R aO) (aI : Sl aO al av) {r : ((List Int) × Int)} (hM : (zaq am ao aq au ae ag av d).Ends r) (w : World) (H : St w w [] R) : Ret Try.prog 24 #[.agg #[ah, ai, aj, ak, I ae, I ag, al], .agg #[I d.spring, I d.town]] w fun v w' => ∃ (y0 : List Int) (y1 : Int) (u0 : Value), (y0, y1) = r /\ v = .tuple #[u0, I y1] /\ St w w' [cOwn (α := Int) 3 u0 y0] R := by
 refine ret_of_W Try.func24 rfl rfl rfl ?_
 refine W.seq ?_
 refine W.region rfl ?_
 refine t_box (v := .agg #[ah, ai, aj, ak, I ae, I ag, al]) (cs := [ah, ai, aj, ak, I ae, I ag, al]) H rfl rfl ?_
 intro aT bb H
 refine t_box (v := .agg #[I d.spring, I d.town]) (cs := [I d.spring, I d.town]) H rfl rfl ?_
 intro aP bc H
 refine zA (.slice none 0 0) rfl ?_
 refine zA (I 0) rfl ?_
 refine s_nil ?_
 refine W.seq ?_
 refine W.region rfl ?_
 refine s_val (x_ld (p := Pq aT) (v := .agg #[ah, ai, aj, ak, I ae, I ag, al]) rfl (ldb_ag (ds := [ah, ai, aj, ak, I ae, I ag, al]) Ag30 Sz30 (H.bl 1) rfl rfl)) ?_
 obtain ⟨bf, aU, hM⟩ := M.e_bind hM
 refine s_call cf44 [.agg #[ah, ai, aj, ak, I ae, I ag, al]] rfl (zbA am ao aq au ae ag av (az.app _) aA (aB.app _) aC (aD.app _) aE (aF.app _) aG (aH.app _) aI aU _ (H.gt 2)) ?_
 rintro vq bg (⟨r1, aV, hvq, aa⟩ | ⟨aQ, aR, ab, ac, bh, bi, aW, hvq, aa⟩)
 ·subst aV
  subst vq
  try dsimp only at hM
  replace H := H.bk aa
  clear aa
  refine zM (.tuple #[.pointer none, I r1]) rfl ?_
  refine zX [.pointer none, I r1] (.pointer none) rfl rfl ?_
  refine zX [.pointer none, I r1] (I r1) rfl rfl ?_
  refine zA (.pointer none) rfl ?_
  refine zA (I r1) rfl ?_
  refine s_nil ?_
  refine W.seq ?_
  refine W.block ?_
  refine W.seq ?_
  refine W.region rfl ?_
  refine zM (I r1) rfl ?_
  refine zC r1 0 (r1 != 0) rfl rfl rfl ?_
  refine zA (B (r1 != 0)) rfl ?_
  refine s_nil ?_
  refine W.cond (r1 != 0) rfl (fun ax => ?_) (fun ax => ?_)
  ·replace hM := M.e_t hM ax
   simp only [qy1, qy2, qy3, qy4, qy5, qy6, ne_eq, qy7] at ax
   refine W.seq ?_
   refine W.region rfl ?_
   refine zM (I r1) rfl ?_
   refine zA (.slice none 0 0) rfl ?_
   refine zA (I r1) rfl ?_
   refine s_nil ?_
   replace H := H.pk []
   refine W.ret ?_
   have aw := M.e_pure hM
   replace H := H.nilOwn (α := Int) 3
   exact ⟨_, resE_tmp2 rfl, ⟨([]), r1, (.slice none 0 0), aw, rfl, H⟩⟩
  replace hM := M.e_f hM ax
  exact (M.e_fail hM).elim
 subst aW
 subst vq
 try dsimp only at hM
 replace H := H.bk aa
 clear aa
 refine zM (.tuple #[Pq ac, I ab]) rfl ?_
 refine zX [Pq ac, I ab] (Pq ac) rfl rfl ?_
 refine zX [Pq ac, I ab] (I ab) rfl rfl ?_
 refine zA (Pq ac) rfl ?_
 refine zA (I ab) rfl ?_
 refine s_nil ?_
 refine W.seq ?_
 refine W.block ?_
 refine W.seq ?_
 refine W.region rfl ?_
 refine zM (I ab) rfl ?_
 refine zC ab 0 (ab != 0) rfl rfl rfl ?_
 refine zA (B (ab != 0)) rfl ?_
 refine s_nil ?_
 refine W.cond (ab != 0) rfl (fun ay => ?_) (fun ay => ?_)
 ·replace hM := M.e_t hM ay
  exact (M.e_fail hM).elim
 replace hM := M.e_f hM ay
 simp only [qy1, qy2, qy3, qy4, qy5, qy6, ne_eq, qy7] at ay
 refine W.seq ?_
 refine W.region rfl ?_
 refine zM (Pq ac) rfl ?_
 refine s_val (x_ld (p := Pq aP) (v := .agg #[I d.spring, I d.town]) rfl (ldb_ag (ds := [I d.spring, I d.town]) Ag62 Sz62 (H.bl 2) rfl rfl)) ?_
 obtain ⟨bj, aX, hM⟩ := M.e_bind hM
 refine s_call cf52 [Pq ac, .agg #[I d.spring, I d.town]] rfl (zdi am ao aq au aQ aR av d (az.app _) aA (aB.app _) aC (aD.app _) aE (aF.app _) aG (aH.app _) aI (Has.here (k := 0) rfl) aX _ (H.gt 4)) ?_
 rintro vq bm ⟨r2, aY, hvq, aa⟩
 subst aY
 subst vq
 try dsimp only at hM
 replace H := H.bk aa
 clear aa
 refine s_val (x_not (b := r2) rfl) ?_
 refine zA (B (!r2)) rfl ?_
 refine s_nil ?_
 refine W.cond (!r2) rfl (fun aJ => ?_) (fun aJ => ?_)
 ·replace hM := M.e_t hM aJ
  refine W.seq ?_
  refine W.region rfl ?_
  refine zA (.slice none 0 0) rfl ?_
  refine zA (I 2) rfl ?_
  refine s_nil ?_
  replace H := H.pk []
  refine W.ret ?_
  have aw := M.e_pure hM
  replace H := H.nilOwn (α := Int) 3
  exact ⟨_, resE_tmp2 rfl, ⟨([]), 2, (.slice none 0 0), aw, rfl, H⟩⟩
 replace hM := M.e_f hM aJ
 refine W.skip ?_
 refine W.seq ?_
 refine W.region rfl ?_
 refine zM (Pq ac) rfl ?_
 refine s_val (x_ld (p := Pq aP) (v := .agg #[I d.spring, I d.town]) rfl (ldb_ag (ds := [I d.spring, I d.town]) Ag62 Sz62 (H.bl 2) rfl rfl)) ?_
 obtain ⟨bn, aZ, hM⟩ := M.e_bind hM
 refine s_call cf54 [Pq ac, .agg #[I d.spring, I d.town]] rfl (za9 am ao aq au aQ aR av d (az.app _) aA (aB.app _) aC (aD.app _) aE (aF.app _) aG (aH.app _) aI (Has.here (k := 0) rfl) aZ _ ((H.pk [1, 0, 2, 3]).gt 3)) ?_
 rintro vq bo ⟨r3, a6, bp, a7, hvq, aa, a8⟩
 subst a7
 subst vq
 try dsimp only at hM
 replace H := H.pk [1, 0, 2, 3] |>.bk aa
 clear aa
 obtain ⟨ba, hM⟩ := M.e_grd hM
 simp only [Bool.and_eq_true, decide_eq_true_eq] at ba
 refine s_call cf53 [a6] rfl (clone_any r3 (Reads.of (k := 0) rfl memLe) a8 (by omega) _ H.sep) ?_
 rintro aS bq aa
 replace H := H.bk aa
 clear aa
 refine zA aS rfl ?_
 refine zA (I 0) rfl ?_
 refine s_nil ?_
 replace H := H.pk [0]
 refine W.ret ?_
 have aw := M.e_pure hM
 exact ⟨_, resE_tmp2 rfl, ⟨r3, 0, aS, aw, rfl, H⟩⟩

def zcu (d : Dem) (aa : List Int) (ab : List Span) (ac : List Int) (ae : List Town) (ag : Int) (ah : Int) (ai : List Flood) : M Bool :=
  M.bind (zaa aa ab ac ae ag ah ai d) fun r2 =>
  M.pure (decide (0 < (r2.length : Int)))
theorem zdn {R : List Chunk} {ak : Nat} {aj : Nat} {am : Cells} {ao : Value} {aq : Cells} {au : Value} {av : Cells} {aw : Value} {ax : Cells} {ay : Value} {az : Cells} {aA : Value} {al : Nat} {B_b_k0207 : Base} (d : Dem) (aa : List Int) (ab : List Span) (ac : List Int) (ae : List Town) (ag : Int) (ah : Int) (ai : List Flood) (aD : Reads R am) (aE : Sl am ao aa) (aF : Reads R aq) (aG : Sl aq au ab) (aH : Reads R av) (aI : Sl av aw ac) (aJ : Reads R ax) (aK : Sl ax ay ae) (aL : Reads R az) (aM : Sl az aA ai) (aN : Has R (cBlk aj [ao, au, aw, ay, I ag, I ah, aA, .map (some al)] 86)) (aO : Has R (cBlk ak [.func (.func 54) #[Pq aj] #[]] 106)) {r : Bool} (hM : (zcu d aa ab ac ae ag ah ai).Ends r) (w : World) (H : St w w [cMem encDm al B_b_k0207 (zaa aa ab ac ae ag ah ai)] R) : Ret Try.prog 68 #[.agg #[I d.spring, I d.town], Pq ak] w fun v w' => ∃ (y0 : Bool) (aP : Base), y0 = r /\ v = B y0 /\ St w w' [cMem encDm al aP (zaa aa ab ac ae ag ah ai)] R := by
 refine ret_of_W Try.func68 rfl rfl rfl ?_
 refine W.seq ?_
 refine W.region rfl ?_
 refine t_box (v := .agg #[I d.spring, I d.town]) (cs := [I d.spring, I d.town]) H rfl rfl ?_
 intro aQ aV H
 refine zA (B false) rfl ?_
 refine s_nil ?_
 refine W.seq ?_
 refine W.region rfl ?_
 refine s_val (x_ld (p := Pq ak) (v := .func (.func 54) #[Pq aj] #[]) rfl (ldb_sc Sc106 (aO.blk H) rfl)) ?_
 refine s_val (x_ld (p := Pq aQ) (v := .agg #[I d.spring, I d.town]) rfl (ldb_ag (ds := [I d.spring, I d.town]) Ag62 Sz62 (H.bl 0) rfl rfl)) ?_
 obtain ⟨aW, aR, hM⟩ := M.e_bind hM
 refine s_callm (f := 54) (fs := [Pq aj]) rfl cf54 [.agg #[I d.spring, I d.town]] rfl (za9 aa ab ac ae ag ah ai d (aD.app _) aE (aF.app _) aG (aH.app _) aI (aJ.app _) aK (aL.app _) aM (aN.app _) aR _ ((H.pk [1, 0]).gt 1)) ?_
 rintro vq aX ⟨r2, aY, aS, aT, hvq, aB, aC⟩
 subst aT
 subst vq
 try dsimp only at hM
 replace H := H.pk [1, 0] |>.bk aB
 clear aB
 have aZ := (aC).len_le
 refine s_val (x_lenS T23.und rfl aC) ?_
 refine zC (r2.length : Int) 0 (decide (0 < (r2.length : Int))) rfl rfl rfl ?_
 refine zA (B (decide (0 < (r2.length : Int)))) rfl ?_
 refine s_nil ?_
 refine W.ret ?_
 have aU := M.e_pure hM
 exact ⟨_, resE_tmp rfl, ⟨(decide (0 < (r2.length : Int))), aS, aU, rfl, (H.pk [0])⟩⟩

def zcI (x : Dem) (aa : List Int) (ab : List Span) (ac : List Int) (ae : List Town) (ag : Int) (ah : Int) (ai : List Flood) : M Bool :=
  M.bind (zcu x aa ab ac ae ag ah ai) fun r2 =>
  M.pure (!r2)
theorem zdM {R : List Chunk} {aj : Nat} {ak : Nat} {am : Nat} {ao : Cells} {aq : Value} {au : Cells} {av : Value} {aw : Cells} {ax : Value} {ay : Cells} {az : Value} {aA : Cells} {aB : Value} {al : Nat} {B_b_k020207 : Base} (x : Dem) (aa : List Int) (ab : List Span) (ac : List Int) (ae : List Town) (ag : Int) (ah : Int) (ai : List Flood) (aD : Reads R ao) (aE : Sl ao aq aa) (aF : Reads R au) (aG : Sl au av ab) (aH : Reads R aw) (aI : Sl aw ax ac) (aJ : Reads R ay) (aK : Sl ay az ae) (aL : Reads R aA) (aM : Sl aA aB ai) (aN : Has R (cBlk am [aq, av, ax, az, I ag, I ah, aB, .map (some al)] 86)) (aO : Has R (cBlk ak [.func (.func 54) #[Pq am] #[]] 106)) (aP : Has R (cBlk aj [.func (.func 68) #[] #[Pq ak]] 105)) {r : Bool} (hM : (zcI x aa ab ac ae ag ah ai).Ends r) (w : World) (H : St w w [cMem encDm al B_b_k020207 (zaa aa ab ac ae ag ah ai)] R) : Ret Try.prog 78 #[.agg #[I x.spring, I x.town], Pq aj] w fun v w' => ∃ (y0 : Bool) (aQ : Base), y0 = r /\ v = B y0 /\ St w w' [cMem encDm al aQ (zaa aa ab ac ae ag ah ai)] R := by
 refine ret_of_W Try.func78 rfl rfl rfl ?_
 refine W.seq ?_
 refine W.region rfl ?_
 refine t_box (v := .agg #[I x.spring, I x.town]) (cs := [I x.spring, I x.town]) H rfl rfl ?_
 intro aR aW H
 refine zA (B false) rfl ?_
 refine s_nil ?_
 refine W.seq ?_
 refine W.region rfl ?_
 refine s_val (x_ld (p := Pq aj) (v := .func (.func 68) #[] #[Pq ak]) rfl (ldb_sc Sc105 (aP.blk H) rfl)) ?_
 refine s_val (x_ld (p := Pq aR) (v := .agg #[I x.spring, I x.town]) rfl (ldb_ag (ds := [I x.spring, I x.town]) Ag62 Sz62 (H.bl 0) rfl rfl)) ?_
 obtain ⟨aX, aS, hM⟩ := M.e_bind hM
 refine s_callv (f := 68) rfl cf68 [.agg #[I x.spring, I x.town]] rfl (zdn x aa ab ac ae ag ah ai (aD.app _) aE (aF.app _) aG (aH.app _) aI (aJ.app _) aK (aL.app _) aM (aN.app _) (aO.app _) aS _ ((H.pk [1, 0]).gt 1)) ?_
 rintro vq aY ⟨r2, aT, aU, hvq, aC⟩
 subst aU
 subst vq
 try dsimp only at hM
 replace H := H.pk [1, 0] |>.bk aC
 clear aC
 refine s_val (x_not (b := r2) rfl) ?_
 refine zA (B (!r2)) rfl ?_
 refine s_nil ?_
 refine W.ret ?_
 have aV := M.e_pure hM
 exact ⟨_, resE_tmp rfl, ⟨(!r2), aT, aV, rfl, (H.pk [0])⟩⟩

def zbu (s : List Dem) (aa : List Int) (ab : List Span) (ac : List Int) (ae : List Town) (ag : Int) (ah : Int) (ai : List Flood) : Nat -> M (Nat ⊕ (Int ⊕ Unit)) := fun s2 =>
  bif decide ((s2 : Int) < (s.length : Int)) then (
  M.grd (decide ((s2 : Int) < (s.length : Int))) <|
  M.bind (zcI (s.getD s2 default) aa ab ac ae ag ah ai) fun r2 =>
  bif r2 then (
  M.pure (.inr (.inl (s2 : Int))))
  else (
  M.pure (.inl (s2 + 1))))
  else (
  M.pure (.inr (.inr ())))
def zcq (s : List Dem) (aa : List Int) (ab : List Span) (ac : List Int) (ae : List Town) (ag : Int) (ah : Int) (ai : List Flood) : M Int :=
  M.bind (M.iter (zbu s aa ab ac ae ag ah ai) 0) fun x_ => match x_ with
  | (.inl s3) => (
  M.pure s3)
  | (.inr (_ : Unit)) => (
  M.pure (-1))
theorem zdf {R : List Chunk} {ax : Cells} {aa : Value} {al : Nat} {ay : Nat} {az : Nat} {aA : Cells} {aB : Value} {aC : Cells} {aD : Value} {aE : Cells} {aF : Value} {aG : Cells} {aH : Value} {aI : Cells} {aJ : Value} {am : Nat} {B_b_f2020207 : Base} (s : List Dem) (ab : List Int) (ac : List Span) (ae : List Int) (ag : List Town) (ah : Int) (ai : Int) (aj : List Flood) (aO : Reads R ax) (ao : Sl ax aa s) (aP : Reads R aA) (aQ : Sl aA aB ab) (aR : Reads R aC) (aS : Sl aC aD ac) (aT : Reads R aE) (aU : Sl aE aF ae) (aV : Reads R aG) (aW : Sl aG aH ag) (aX : Reads R aI) (aY : Sl aI aJ aj) (aZ : Has R (cBlk az [aB, aD, aF, aH, I ah, I ai, aJ, .map (some am)] 86)) (a6 : Has R (cBlk ay [.func (.func 54) #[Pq az] #[]] 106)) (a7 : Has R (cBlk al [.func (.func 68) #[] #[Pq ay]] 105)) {r : Int} (hM : (zcq s ab ac ae ag ah ai aj).Ends r) (w : World) (H : St w w [cMem encDm am B_b_f2020207 (zaa ab ac ae ag ah ai aj)] R) : Ret Try.prog 76 #[aa, .func (.func 78) #[] #[Pq al]] w fun v w' => ∃ (y0 : Int) (a8 : Base), y0 = r /\ v = I y0 /\ St w w' [cMem encDm am a8 (zaa ab ac ae ag ah ai aj)] R := by
 refine ret_of_W Try.func76 rfl rfl rfl ?_
 refine W.seq ?_
 refine W.region rfl ?_
 refine zA (I 0) rfl ?_
 refine s_nil ?_
 refine W.seq ?_
 refine W.seq ?_
 refine W.region rfl ?_
 refine zM aa rfl ?_
 have bm := (ao).len_le
 refine s_val (x_lenS T57.und rfl ao) ?_
 refine zM (I 0) rfl ?_
 refine s_nil ?_
 refine W.block ?_
 obtain ⟨ba, aq, aK⟩ := M.e_bind hM
 obtain ⟨bn, aq⟩ := M.e_iter aq
 refine W.loop (fun m σ W => ∃ (s2 : Nat) (B_mem : Base) (ρ : Env), σ = upds ρ [(0, aa), (1, .func (.func 78) #[] #[Pq al]), (7, I (s.length : Int)), (8, I (s2 : Int))] /\ M.iterN (zbu s ab ac ae ag ah ai aj) m s2 = some ba /\ St w W [cMem encDm am B_mem (zaa ab ac ae ag ah ai aj)] R) ?_ ?_
 ·exact ⟨_, 0, B_b_f2020207, _, upds_of _ _ ⟨rfl, rfl, rfl, rfl, trivial⟩, aq, H⟩
 rintro bo σ bp ⟨s2, B_mem, ρ, rfl, aL, H⟩
 obtain ⟨bb, bc, bq, hM, au⟩ := M.e_iterN aL
 simp only [zbu] at hM
 clear aL
 refine W.seq ?_
 refine W.region rfl ?_
 refine zC (s2 : Int) (s.length : Int) (decide ((s2 : Int) < (s.length : Int))) rfl rfl rfl ?_
 refine s_nil ?_
 refine W.seq ?_
 refine W.cond (decide ((s2 : Int) < (s.length : Int))) rfl (fun ak => ?_) (fun ak => ?_)
 ·replace hM := M.e_t hM ak
  simp only [qy1, qy2, qy3, qy4, qy5, qy6, ne_eq, qy7] at ak
  refine W.skip ?_
  refine W.seq ?_
  refine W.block ?_
  refine W.seq ?_
  refine W.region rfl ?_
  refine zM (I (s2 : Int)) rfl ?_
  refine zA (I (s2 : Int)) rfl ?_
  refine s_nil ?_
  refine W.seq ?_
  refine W.region rfl ?_
  refine zM (.func (.func 78) #[] #[Pq al]) rfl ?_
  refine zM aa rfl ?_
  refine zM (I (s2 : Int)) rfl ?_
  obtain ⟨bf, hM⟩ := M.e_grd hM
  simp only [Bool.and_eq_true, decide_eq_true_eq] at bf
  refine s_val (x_ix (a := aa) (b := I (s2 : Int)) (v := vat aa 2 (Int.toNat (s2 : Int))) rfl rfl (Sl.ix (α := Dem) T57.und T57.size ao (by omega) (by omega))) ?_
  refine s_val (x_ld (p := vat aa 2 (Int.toNat (s2 : Int))) (v := .agg #[I ((s.getD s2 default).spring), I ((s.getD s2 default).town)]) rfl (ld_ag Ag62 Sz62 (At.mono (Dem_atA ao (i := (s2 : Int)) (by omega) (by omega)) (aO.at H)))) ?_
  obtain ⟨br, bg, hM⟩ := M.e_bind hM
  refine s_callv (f := 78) rfl cf78 [.agg #[I ((s.getD s2 default).spring), I ((s.getD s2 default).town)]] rfl (zdM (s.getD s2 default) ab ac ae ag ah ai aj (aP.app _) aQ (aR.app _) aS (aT.app _) aU (aV.app _) aW (aX.app _) aY (aZ.app _) (a6.app _) (a7.app _) bg _ (H.gt 0)) ?_
  rintro vq bt ⟨r2, aM, bh, hvq, aN⟩
  subst bh
  subst vq
  try dsimp only at hM
  replace H := H.bk aN
  clear aN
  refine s_nil ?_
  refine W.cond r2 rfl (fun av => ?_) (fun av => ?_)
  ·replace hM := M.e_t hM av
   refine W.seq ?_
   refine W.region rfl ?_
   refine zM (I (s2 : Int)) rfl ?_
   refine zA (I (s2 : Int)) rfl ?_
   refine s_nil ?_
   refine W.ret ?_
   have bi := M.e_inr hM au
   subst bi
   replace hM := aK
   try dsimp only at hM
   have aw := M.e_pure hM
   exact ⟨_, resE_tmp rfl, ⟨(s2 : Int), aM, aw, rfl, H⟩⟩
  replace hM := M.e_f hM av
  refine W.skip ?_
  refine W.region rfl ?_
  refine zR (s2 : Int) 1 ((s2 : Int) + 1) rfl rfl rfl (by omega) ?_
  refine zM (I ((s2 : Int) + 1)) rfl ?_
  refine s_nil ?_
  exact ⟨bb, bc, s2 + 1, aM, _, upds_of _ _ ⟨rfl, rfl, rfl, rfl, trivial⟩, M.e_inl hM au, H⟩
 replace hM := M.e_f hM ak
 simp only [qy1, qy2, qy3, qy4, qy5, qy6, ne_eq, qy7] at ak
 refine W.exit ?_
 have bj := M.e_inr hM au
 subst bj
 replace hM := aK
 try dsimp only at hM
 refine W.seq ?_
 refine W.region rfl ?_
 refine zA (I (-1)) rfl ?_
 refine s_nil ?_
 refine W.ret ?_
 have aw := M.e_pure hM
 exact ⟨_, resE_tmp rfl, ⟨(-1), B_mem, aw, rfl, H⟩⟩

def zcC (s : List Dem) (aa : List Int) (ab : List Span) (ac : List Int) (ae : List Town) (ag : Int) (ah : Int) (ai : List Flood) : M Bool :=
  M.bind (zcq s aa ab ac ae ag ah ai) fun r2 =>
  M.pure (decide (0 <= r2))
theorem zdk {R : List Chunk} {am : Cells} {aj : Value} {ak : Nat} {ao : Nat} {aq : Nat} {au : Cells} {av : Value} {aw : Cells} {ax : Value} {ay : Cells} {az : Value} {aA : Cells} {aB : Value} {aC : Cells} {aD : Value} {al : Nat} {B_b_f2020207 : Base} (s : List Dem) (aa : List Int) (ab : List Span) (ac : List Int) (ae : List Town) (ag : Int) (ah : Int) (ai : List Flood) (aF : Reads R am) (aG : Sl am aj s) (aH : Reads R au) (aI : Sl au av aa) (aJ : Reads R aw) (aK : Sl aw ax ab) (aL : Reads R ay) (aM : Sl ay az ac) (aN : Reads R aA) (aO : Sl aA aB ae) (aP : Reads R aC) (aQ : Sl aC aD ai) (aR : Has R (cBlk aq [av, ax, az, aB, I ag, I ah, aD, .map (some al)] 86)) (aS : Has R (cBlk ao [.func (.func 54) #[Pq aq] #[]] 106)) (aT : Has R (cBlk ak [.func (.func 68) #[] #[Pq ao]] 105)) {r : Bool} (hM : (zcC s aa ab ac ae ag ah ai).Ends r) (w : World) (H : St w w [cMem encDm al B_b_f2020207 (zaa aa ab ac ae ag ah ai)] R) : Ret Try.prog 74 #[aj, .func (.func 78) #[] #[Pq ak]] w fun v w' => ∃ (y0 : Bool) (aU : Base), y0 = r /\ v = B y0 /\ St w w' [cMem encDm al aU (zaa aa ab ac ae ag ah ai)] R := by
 refine ret_of_W Try.func74 rfl rfl rfl ?_
 refine W.seq ?_
 refine W.region rfl ?_
 refine zA (B false) rfl ?_
 refine s_nil ?_
 refine W.seq ?_
 refine W.region rfl ?_
 refine zM aj rfl ?_
 refine zM (.func (.func 78) #[] #[Pq ak]) rfl ?_
 obtain ⟨aZ, aV, hM⟩ := M.e_bind hM
 refine s_call cf76 [aj, .func (.func 78) #[] #[Pq ak]] rfl (zdf s aa ab ac ae ag ah ai (aF.app _) aG (aH.app _) aI (aJ.app _) aK (aL.app _) aM (aN.app _) aO (aP.app _) aQ (aR.app _) (aS.app _) (aT.app _) aV _ (H.gt 0)) ?_
 rintro vq a6 ⟨r2, aW, aX, hvq, aE⟩
 subst aX
 subst vq
 try dsimp only at hM
 replace H := H.bk aE
 clear aE
 refine zC r2 0 (decide (0 <= r2)) rfl rfl rfl ?_
 refine zA (B (decide (0 <= r2))) rfl ?_
 refine s_nil ?_
 refine W.ret ?_
 have aY := M.e_pure hM
 exact ⟨_, resE_tmp rfl, ⟨(decide (0 <= r2)), aW, aY, rfl, H⟩⟩

def zb2 (l : List Dem) (aa : List Int) (ab : List Span) (ac : List Int) (ae : List Town) (ag : Int) (ah : Int) (ai : List Flood) : M Bool :=
  M.bind (zcC l aa ab ac ae ag ah ai) fun r2 =>
  M.pure (!r2)
theorem zdH {R : List Chunk} {am : Cells} {aj : Value} {ak : Nat} {ao : Nat} {aq : Cells} {au : Value} {av : Cells} {aw : Value} {ax : Cells} {ay : Value} {az : Cells} {aA : Value} {aB : Cells} {aC : Value} {al : Nat} {B_b_so20207 : Base} (l : List Dem) (aa : List Int) (ab : List Span) (ac : List Int) (ae : List Town) (ag : Int) (ah : Int) (ai : List Flood) (aF : Reads R am) (aG : Sl am aj l) (aH : Reads R aq) (aI : Sl aq au aa) (aJ : Reads R av) (aK : Sl av aw ab) (aL : Reads R ax) (aM : Sl ax ay ac) (aN : Reads R az) (aO : Sl az aA ae) (aP : Reads R aB) (aQ : Sl aB aC ai) (aR : Has R (cBlk ao [au, aw, ay, aA, I ag, I ah, aC, .map (some al)] 86)) (aS : Has R (cBlk ak [.func (.func 54) #[Pq ao] #[]] 106)) {r : Bool} (hM : (zb2 l aa ab ac ae ag ah ai).Ends r) (w : World) (H : St w w [cMem encDm al B_b_so20207 (zaa aa ab ac ae ag ah ai)] R) : Ret Try.prog 60 #[aj, .func (.func 68) #[] #[Pq ak]] w fun v w' => ∃ (y0 : Bool) (aT : Base), y0 = r /\ v = B y0 /\ St w w' [cMem encDm al aT (zaa aa ab ac ae ag ah ai)] R := by
 refine ret_of_W Try.func60 rfl rfl rfl ?_
 refine W.seq ?_
 refine W.region rfl ?_
 refine t_box (v := .func (.func 68) #[] #[Pq ak]) (cs := [.func (.func 68) #[] #[Pq ak]]) H rfl rfl ?_
 intro aD aY H
 refine zA (B false) rfl ?_
 refine s_nil ?_
 refine W.seq ?_
 refine W.region rfl ?_
 refine zM aj rfl ?_
 refine s_val (x_mf (fs := []) (cs := [Pq aD]) rfl rfl) ?_
 obtain ⟨aZ, aU, hM⟩ := M.e_bind hM
 refine s_call cf74 [aj, .func (.func 78) #[] #[Pq aD]] rfl (zdk l aa ab ac ae ag ah ai (aF.app _) aG (aH.app _) aI (aJ.app _) aK (aL.app _) aM (aN.app _) aO (aP.app _) aQ (aR.app _) (aS.app _) (Has.here (k := 0) rfl) aU _ ((H.pk [1, 0]).gt 1)) ?_
 rintro vq a6 ⟨r2, aV, aW, hvq, aE⟩
 subst aW
 subst vq
 try dsimp only at hM
 replace H := H.pk [1, 0] |>.bk aE
 clear aE
 refine s_val (x_not (b := r2) rfl) ?_
 refine zA (B (!r2)) rfl ?_
 refine s_nil ?_
 refine W.ret ?_
 have aX := M.e_pure hM
 exact ⟨_, resE_tmp rfl, ⟨(!r2), aV, aX, rfl, (H.pk [0])⟩⟩

def zaw : Int -> (Int × Int) -> M (Int ⊕ Unit) := fun s (x, x2) =>
  M.grd (decide ((-9223372036854775808 : Int) <= (s + 1)) && decide ((s + 1) <= (9223372036854775807 : Int))) <|
  M.pure (.inl (s + 1))
def zaU (d : Dem) (ah : List Int) (ai : List Span) (aj : List Int) (ak : List Town) (al : Int) (am : Int) (ao : List Flood) (aa : List Int) (ab : List Span) (ac : List Int) (ae : List Town) (aq : Int) (au : Int) (ag : List Flood) : M Int :=
  M.bind (zaa ah ai aj ak al am ao d) fun r2 =>
  M.grd (decide ((0 : Int) <= ((r2.length : Int) - 1)) && decide (((r2.length : Int) - 1) < (r2.length : Int))) <|
  M.bind (zan aa ab ac ae aq au ag (r2.getD (Int.toNat ((r2.length : Int) - 1)) 0)) fun (av, aw, ax) =>
  M.bind (zak (M.yl zaw) (.inl 0) av aa ab ac ae aw ax ag) fun x_ => match x_ with
  | (.inl s, q0) => (
  M.pure s)
  | (.inr _, _) => M.fail
theorem zc2 {R : List Chunk} {aW : Nat} {aH : Nat} {bq : Cells} {br : Value} {bt : Cells} {bu : Value} {bv : Cells} {bw : Value} {bx : Cells} {bz : Value} {bA : Cells} {bB : Value} {ak : Nat} {B_b_k0207 : Base} {aX : Nat} {ax : Nat} {bC : Cells} {al : Value} {bD : Cells} {am : Value} {bE : Cells} {ao : Value} {bF : Cells} {aq : Value} {bG : Cells} {au : Value} {bO : Nat} (d : Dem) (ab : List Int) (ac : List Span) (ae : List Int) (ag : List Town) (ah : Int) (ai : Int) (aj : List Flood) (aI : List Int) (aJ : List Span) (aK : List Int) (aL : List Town) (aA : Int) (aB : Int) (aM : List Flood) (aY : Reads R bq) (bH : Sl bq br ab) (aZ : Reads R bt) (bI : Sl bt bu ac) (a6 : Reads R bv) (bJ : Sl bv bw ae) (a7 : Reads R bx) (bK : Sl bx bz ag) (a8 : Reads R bA) (bL : Sl bA bB aj) (ba : Has R (cBlk aH [br, bu, bw, bz, I ah, I ai, bB, .map (some ak)] 86)) (bb : Has R (cBlk aW [.func (.func 54) #[Pq aH] #[]] 106)) (aN : Reads R bC) (bc : Sl bC al aI) (aO : Reads R bD) (bf : Sl bD am aJ) (aP : Reads R bE) (bg : Sl bE ao aK) (aQ : Reads R bF) (bh : Sl bF aq aL) (aR : Reads R bG) (bi : Sl bG au aM) (bj : Has R (cBlk ax [al, am, ao, aq, I aA, I aB, au, .map (some bO)] 86)) (bm : Has R (cBlk aX [Pq ax] 72)) {r : Int} (hM : (zaU d ab ac ae ag ah ai aj aI aJ aK aL aA aB aM).Ends r) (w : World) (H : St w w [cMem encDm ak B_b_k0207 (zaa ab ac ae ag ah ai aj)] R) : Ret Try.prog 69 #[.agg #[I d.spring, I d.town], Pq aW, Pq aX] w fun v w' => ∃ (y0 : Int) (bP : Base), y0 = r /\ v = I y0 /\ St w w' [cMem encDm ak bP (zaa ab ac ae ag ah ai aj)] R := by
 refine ret_of_WD Try.func69 rfl rfl rfl ?_
 replace H : St w w [cMk ([]), cMem encDm ak B_b_k0207 (zaa ab ac ae ag ah ai aj)] R := H.mk0
 have b8 := bH.len_le
 have b9 := bI.len_le
 have ca := bJ.len_le
 have cb := bK.len_le
 have cc := bL.len_le
 have cd := bc.len_le
 have ce := bf.len_le
 have cf := bg.len_le
 have cg := bh.len_le
 have ch := bi.len_le
 unfold zaU at hM
 refine WD.seq ?_
 refine WD.of ?_
 refine W.region rfl ?_
 refine t_box (v := .agg #[I d.spring, I d.town]) (cs := [I d.spring, I d.town]) H rfl rfl ?_
 intro ay ck H
 refine zA (I 0) rfl ?_
 refine s_nil ?_
 refine WD.seq ?_
 refine WD.of ?_
 refine W.region rfl ?_
 refine s_val (x_ld (p := Pq aW) (v := .func (.func 54) #[Pq aH] #[]) rfl (ldb_sc Sc106 (bb.blk H) rfl)) ?_
 refine s_val (x_ld (p := Pq ay) (v := .agg #[I d.spring, I d.town]) rfl (ldb_ag (ds := [I d.spring, I d.town]) Ag62 Sz62 (H.bl 0) rfl rfl)) ?_
 obtain ⟨cm, bQ, hM⟩ := M.e_bind hM
 refine s_callm (f := 54) (fs := [Pq aH]) rfl cf54 [.agg #[I d.spring, I d.town]] rfl (za9 ab ac ae ag ah ai aj d (aY.app _) bH (aZ.app _) bI (a6.app _) bJ (a7.app _) bK (a8.app _) bL (ba.app _) bQ _ ((H.pk [2, 0, 1]).gt 2)) ?_
 rintro vq cn ⟨r2, aC, az, bR, hvq, aw, aS⟩
 subst bR
 subst vq
 try dsimp only at hM
 replace H := H.pk [2, 0, 1] |>.bk aw
 clear aw
 refine zA aC rfl ?_
 refine s_nil ?_
 refine WD.seq ?_
 refine WD.of ?_
 refine W.region rfl ?_
 refine t_alloc (cs := [I 0]) H Al3 rfl ?_
 intro av co H
 refine t_sw 0 0 [I 0] (I 0) H rfl rfl Sz3 rfl rfl rfl rfl ?_
 intro cp H
 refine s_nil ?_
 refine WD.seq ?_
 refine WD.seq ?_
 refine WD.of ?_
 refine W.draw (fun W => St w W [cBlk av [I 0] 3, cMem encDm ak az (zaa ab ac ae ag ah ai aj), cBlk ay [I d.spring, I d.town] 62, cMk ([])] R) [(0, true), (1, true), (2, true), (3, true), (4, true), (5, true), (6, true), (7, true), (8, true), (9, true), (10, false)] mixed (by decide +kernel) rfl ?_
 intro cq bM
 replace H := H.ext bM
 clear bM
 refine ⟨(H.pk [0, 1, 2, 3]), ?_⟩
 refine d_q rfl (fun w' H => x_ld (p := Pq aX) (v := Pq ax) rfl (ldb_sc Sc72 (bm.blk H) rfl)) ?_
 refine d_q rfl (fun w' H => x_nc (a := ⟨ax, 0, none⟩) rfl) ?_
 refine d_q rfl (fun w' H => x_fa (a := Pq ax) (v := Pq ax) rfl (fa_blk (o := 0) Fd86_0 Sz30)) ?_
 refine d_q rfl (fun w' H => x_ld (p := Pq ax) (v := .agg #[al, am, ao, aq, I aA, I aB, au]) rfl (ldb_ag (ds := [al, am, ao, aq, I aA, I aB, au]) Ag30 Sz30 (bj.blk H) rfl rfl)) ?_
 refine d_q rfl (fun w' H => x_mv (v := aC) rfl) ?_
 refine d_q rfl (fun w' H => x_mv (v := aC) rfl) ?_
 have ct := (aS).len_le
 refine d_q rfl (fun w' H => x_lenS T23.und rfl aS) ?_
 refine d_q rfl (fun w' H => x_ari (a := (r2.length : Int)) (b := 1) (r := (r2.length : Int) - 1) rfl rfl rfl (by omega)) ?_
 obtain ⟨bS, hM⟩ := M.e_grd hM
 simp only [Bool.and_eq_true, decide_eq_true_eq] at bS
 refine d_q rfl (fun w' H => x_ix (a := aC) (b := I ((r2.length : Int) - 1)) (v := vat aC 1 (Int.toNat ((r2.length : Int) - 1))) rfl rfl (Sl.ix (α := Int) T23.und T23.size aS (by omega) (by omega))) ?_
 refine d_q rfl (fun w' H => x_ld (p := vat aC 1 (Int.toNat ((r2.length : Int) - 1))) (v := I (r2.getD (Int.toNat ((r2.length : Int) - 1)) 0)) rfl (ld_sc Sc3 (At.mono (Int_at aS (i := (r2.length : Int) - 1) (by omega) (by omega)) (memLe _ (H.get (k := 1) rfl))))) ?_
 refine d_l rfl ?_
 obtain ⟨cu, bT, hM⟩ := M.e_bind hM
 refine s_call cf46 [.agg #[al, am, ao, aq, I aA, I aB, au], I (r2.getD (Int.toNat ((r2.length : Int) - 1)) 0)] rfl (zbe aI aJ aK aL aA aB aM (r2.getD (Int.toNat ((r2.length : Int) - 1)) 0) (aN.app _) bc (aO.app _) bf (aP.app _) bg (aQ.app _) bh (aR.app _) bi bT _ (H.gt 4)) ?_
 rintro vq cw ⟨aT, aD, aE, aG, aF, bU, hvq, aw⟩
 subst bU
 subst vq
 try dsimp only at hM
 replace H := H.bk aw
 clear aw
 refine s_nil ⟨(H.pk [2, 3, 4, 5]), ?_⟩
 refine d_nil ?_
 refine WD.block ?_
 obtain ⟨cx, bV, hM⟩ := M.e_bind hM
 refine WD.range (L := [cBlk av [I 0] 3, cBlk aF [al, am, ao, aq, I aD, I aE, au] 30, cMem encDm ak az (zaa ab ac ae ag ah ai aj), cBlk ay [I d.spring, I d.town] 62, cBlk aG [I aT] 3]) [Pq aG, Pq aF] (H.pk [5, 2, 1, 3, 4, 0]) rfl cf67 ?_
 intro aU bn bo bW bp H
 have hYC : YieldC Try.prog ([cMk (bn :: ([])), cBlk aF [al, am, ao, aq, I aD, I aE, au] 30, cMem encDm ak az (zaa ab ac ae ag ah ai aj), cBlk ay [I d.spring, I d.town] 62] ++ R) arII (yJ aU bo (fun s aV => aV = [cBlk av [I s] 3]) (fun (_ : Unit) _ => False) (fun _ => .ret)) (.func (.yield aU) #[] #[]) (M.yl zaw) := by
  refine YieldC.mk bp (fun s aV => aV = [cBlk av [I s] 3]) (fun (_ : Unit) _ => False) (fun _ => .ret) zaw (by rintro s _ h_; obtain ⟨rfl⟩ := h_; rfl) (fun _ _ h_ => h_.elim) rfl (arII_len rfl) ?_
  intro C_ cy x_ W_ bX
  obtain ⟨x, x2⟩ := x_
  obtain rfl := bX
  refine W.skip ?_
  refine ⟨rfl, rfl, ?_⟩
  intro w R aa aV s_ r bY hM H
  skip
  obtain ⟨s, bZ⟩ : ∃ y_, y_ = s_ := ⟨_, rfl⟩
  subst bZ
  obtain ⟨rfl⟩ := bY
  replace aY := aY.sub aa
  replace aZ := aZ.sub aa
  replace a6 := a6.sub aa
  replace a7 := a7.sub aa
  replace a8 := a8.sub aa
  replace ba := ba.sub aa
  replace bb := bb.sub aa
  replace aN := aN.sub aa
  replace aO := aO.sub aa
  replace aP := aP.sub aa
  replace aQ := aQ.sub aa
  replace aR := aR.sub aa
  replace bj := bj.sub aa
  replace bm := bm.sub aa
  replace hM : (zaw s (x, x2)).Ends r := hM
  simp only [zaw] at hM
  replace H := H.pk [0, 2, 3, 4, 1]
  refine W.block ?_
  refine W.region rfl ?_
  refine s_val (x_ld (p := Pq av) (v := I s) rfl (ldb_sc Sc3 (H.bl 0) rfl)) ?_
  obtain ⟨b4, hM⟩ := M.e_grd hM
  simp only [Bool.and_eq_true, decide_eq_true_eq] at b4
  refine zR s 1 (s + 1) rfl rfl rfl (by omega) ?_
  refine t_sw 0 0 [I (s + 1)] (I (s + 1)) H rfl rfl Sz3 rfl rfl rfl rfl ?_
  intro cz H
  refine s_nil ?_
  exact ⟨s + 1, [cBlk av [I (s + 1)] 3], (M.e_pure hM).symm, rfl, H.pick [0, 4, 1, 2, 3] (by decide) rfl⟩
 replace H : St w bW (cAll (cObj aU (.loop bo) :: [cBlk av [I 0] 3]) :: [cBlk aG [I aT] 3, cMk (bn :: ([])), cBlk aF [al, am, ao, aq, I aD, I aE, au] 30, cMem encDm ak az (zaa ab ac ae ag ah ai aj), cBlk ay [I d.spring, I d.town] 62]) R := St.bundleB (A := cObj aU (.loop bo) :: [cBlk av [I 0] 3]) (T := [cBlk aG [I aT] 3, cMk (bn :: ([])), cBlk aF [al, am, ao, aq, I aD, I aE, au] 30, cMem encDm ak az (zaa ab ac ae ag ah ai aj), cBlk ay [I d.spring, I d.town] 62]) rfl (H.pk [0, 2, 6, 1, 3, 4, 5])
 refine (zbK (M.yl zaw) (.inl 0) aT aI aJ aK aL aD aE aM hYC ⟨_, rfl, rfl⟩ (aN.app _) bc (aO.app _) bf (aP.app _) bg (aQ.app _) bh (aR.app _) bi (Has.here (k := 1) rfl) bV _ (H.gt 4)).mono ?_
 rintro vq cA ⟨b5, q0, cB, b6, hvq, aw, bN⟩
 subst b6
 replace H := H.back aw rfl
 clear aw hYC
 rcases b5 with s | _
 ·try dsimp only at hM
  obtain ⟨_, rfl, rfl⟩ := bN
  refine ⟨_, [cBlk av [I s] 3, cBlk aF [al, am, ao, aq, I aD, I aE, au] 30, cMem encDm ak az (zaa ab ac ae ag ah ai aj), cBlk ay [I d.spring, I d.town] 62, cBlk aG [I q0] 3], H.unbundle.pick [0, 3, 1, 4, 5, 6, 2] (by decide) rfl, bp.nb, ?_⟩
  intro cC H
  rw [bp.pd]
  replace H := H.nf
  try simp only []
  replace H := H.pk [0, 1, 3]
  refine WD.seq ?_
  refine WD.of ?_
  refine W.region rfl ?_
  refine s_val (x_ld (p := Pq av) (v := I s) rfl (ldb_sc Sc3 (H.bl 1) rfl)) ?_
  refine zA (I s) rfl ?_
  refine s_nil ?_
  refine WD.of ?_
  refine W.ret ?_
  refine bodyD_r (H.pk [0, 1, 2]) ?_
  intro cD H
  replace H := H.nf
  have b7 := M.e_pure hM
  exact ⟨_, resE_tmp rfl, ⟨s, az, b7, rfl, (H.pk [1])⟩⟩
 obtain ⟨_, _, h_⟩ := bN; exact h_.elim

def m_cmp_isNaN_int (x : Int) : M Bool :=
  M.pure (x != x)
theorem cmp_isNaN_int_ok {R : List Chunk}  (x : Int)  {r : Bool} (hM : (m_cmp_isNaN_int x).Ends r) (w : World) (H : St w w [] R) : Ret Try.prog 87 #[I x] w fun v w' => ∃ (y0 : Bool), y0 = r /\ v = B y0 /\ St w w' [] R := by
 refine ret_of_W Try.func87 rfl rfl rfl ?_
 refine W.seq ?_
 refine W.region rfl ?_
 refine zA (B false) rfl ?_
 refine s_nil ?_
 refine W.seq ?_
 refine W.region rfl ?_
 refine zM (I x) rfl ?_
 refine zM (I x) rfl ?_
 refine zC x x (x != x) rfl rfl rfl ?_
 refine zA (B (x != x)) rfl ?_
 refine s_nil ?_
 refine W.ret ?_
 have aa := M.e_pure hM
 exact ⟨_, resE_tmp rfl, ⟨(x != x), aa, rfl, H⟩⟩

def m_cmp_Compare_int (x : Int) (y : Int) : M Int :=
  M.bind (m_cmp_isNaN_int x) fun r2 =>
  M.bind (m_cmp_isNaN_int y) fun r3 =>
  bif r2 then (
  bif r3 then (
  M.pure 0)
  else (
  M.pure (-1)))
  else (
  bif r3 then (
  M.pure 1)
  else (
  bif decide (x < y) then (
  M.pure (-1))
  else (
  bif decide (y < x) then (
  M.pure 1)
  else (
  M.pure 0))))
theorem cmp_Compare_int_ok {R : List Chunk}  (x : Int) (y : Int)  {r : Int} (hM : (m_cmp_Compare_int x y).Ends r) (w : World) (H : St w w [] R) : Ret Try.prog 72 #[I x, I y] w fun v w' => ∃ (y0 : Int), y0 = r /\ v = I y0 /\ St w w' [] R := by
 refine ret_of_W Try.func72 rfl rfl rfl ?_
 refine W.seq ?_
 refine W.region rfl ?_
 refine zA (I 0) rfl ?_
 refine s_nil ?_
 refine W.seq ?_
 refine W.region rfl ?_
 refine zM (I x) rfl ?_
 obtain ⟨ao, aj, hM⟩ := M.e_bind hM
 refine s_call cf87 [I x] rfl (cmp_isNaN_int_ok x aj _ (H.gt 0)) ?_
 rintro vq aq ⟨r2, ak, hvq, ab⟩
 subst ak
 subst vq
 try dsimp only at hM
 replace H := H.bk ab
 clear ab
 refine zA (B r2) rfl ?_
 refine s_nil ?_
 refine W.seq ?_
 refine W.region rfl ?_
 refine zM (I y) rfl ?_
 obtain ⟨au, al, hM⟩ := M.e_bind hM
 refine s_call cf87 [I y] rfl (cmp_isNaN_int_ok y al _ (H.gt 0)) ?_
 rintro vq av ⟨r3, am, hvq, ab⟩
 subst am
 subst vq
 try dsimp only at hM
 replace H := H.bk ab
 clear ab
 refine zA (B r3) rfl ?_
 refine s_nil ?_
 refine W.seq ?_
 refine W.seq ?_
 refine W.region rfl ?_
 refine zM (B r2) rfl ?_
 refine s_nil ?_
 refine W.cond r2 rfl (fun ag => ?_) (fun ag => ?_)
 ·replace hM := M.e_t hM ag
  refine W.seq ?_
  refine W.seq ?_
  refine W.region rfl ?_
  refine zM (B r3) rfl ?_
  refine s_nil ?_
  refine W.cond r3 rfl (fun ah => ?_) (fun ah => ?_)
  ·replace hM := M.e_t hM ah
   refine W.seq ?_
   refine W.region rfl ?_
   refine zA (I 0) rfl ?_
   refine s_nil ?_
   refine W.ret ?_
   have aa := M.e_pure hM
   exact ⟨_, resE_tmp rfl, ⟨0, aa, rfl, H⟩⟩
  replace hM := M.e_f hM ah
  refine W.skip ?_
  refine W.seq ?_
  refine W.region rfl ?_
  refine zA (I (-1)) rfl ?_
  refine s_nil ?_
  refine W.ret ?_
  have aa := M.e_pure hM
  exact ⟨_, resE_tmp rfl, ⟨(-1), aa, rfl, H⟩⟩
 replace hM := M.e_f hM ag
 refine W.skip ?_
 refine W.seq ?_
 refine W.seq ?_
 refine W.region rfl ?_
 refine zM (B r3) rfl ?_
 refine s_nil ?_
 refine W.cond r3 rfl (fun ai => ?_) (fun ai => ?_)
 ·replace hM := M.e_t hM ai
  refine W.seq ?_
  refine W.region rfl ?_
  refine zA (I 1) rfl ?_
  refine s_nil ?_
  refine W.ret ?_
  have aa := M.e_pure hM
  exact ⟨_, resE_tmp rfl, ⟨1, aa, rfl, H⟩⟩
 replace hM := M.e_f hM ai
 refine W.skip ?_
 refine W.seq ?_
 refine W.seq ?_
 refine W.region rfl ?_
 refine zM (I x) rfl ?_
 refine zM (I y) rfl ?_
 refine zC x y (decide (x < y)) rfl rfl rfl ?_
 refine s_nil ?_
 refine W.cond (decide (x < y)) rfl (fun ac => ?_) (fun ac => ?_)
 ·replace hM := M.e_t hM ac
  simp only [qy1, qy2, qy3, qy4, qy5, qy6, ne_eq, qy7] at ac
  refine W.seq ?_
  refine W.region rfl ?_
  refine zA (I (-1)) rfl ?_
  refine s_nil ?_
  refine W.ret ?_
  have aa := M.e_pure hM
  exact ⟨_, resE_tmp rfl, ⟨(-1), aa, rfl, H⟩⟩
 replace hM := M.e_f hM ac
 simp only [qy1, qy2, qy3, qy4, qy5, qy6, ne_eq, qy7] at ac
 refine W.skip ?_
 refine W.seq ?_
 refine W.seq ?_
 refine W.region rfl ?_
 refine zM (I x) rfl ?_
 refine zM (I y) rfl ?_
 refine zC x y (decide (y < x)) rfl rfl rfl ?_
 refine s_nil ?_
 refine W.cond (decide (y < x)) rfl (fun ae => ?_) (fun ae => ?_)
 ·replace hM := M.e_t hM ae
  simp only [qy1, qy2, qy3, qy4, qy5, qy6, ne_eq, qy7] at ae
  refine W.seq ?_
  refine W.region rfl ?_
  refine zA (I 1) rfl ?_
  refine s_nil ?_
  refine W.ret ?_
  have aa := M.e_pure hM
  exact ⟨_, resE_tmp rfl, ⟨1, aa, rfl, H⟩⟩
 replace hM := M.e_f hM ae
 simp only [qy1, qy2, qy3, qy4, qy5, qy6, ne_eq, qy7] at ae
 refine W.skip ?_
 refine W.seq ?_
 refine W.region rfl ?_
 refine zA (I 0) rfl ?_
 refine s_nil ?_
 refine W.ret ?_
 have aa := M.e_pure hM
 exact ⟨_, resE_tmp rfl, ⟨0, aa, rfl, H⟩⟩

def zar (a : Dem) (b : Dem) (aa : List Int) (ab : List Span) (ac : List Int) (ae : List Town) (ag : Int) (ah : Int) (ai : List Flood) (aj : List Int) (ak : List Span) (al : List Int) (am : List Town) (ao : Int) (aq : Int) (au : List Flood) : M Int :=
  M.bind (zaU b aa ab ac ae ag ah ai aj ak al am ao aq au) fun r2 =>
  M.bind (zaU a aa ab ac ae ag ah ai aj ak al am ao aq au) fun r3 =>
  M.bind (m_cmp_Compare_int r2 r3) fun r4 =>
  M.pure r4
theorem zb4 {R : List Chunk} {ak : Nat} {al : Nat} {aA : Nat} {aB : Cells} {aC : Value} {aD : Cells} {aE : Value} {aF : Cells} {aG : Value} {aH : Cells} {aI : Value} {aJ : Cells} {aK : Value} {az : Nat} {B_b_k020207 : Base} {am : Nat} {aL : Nat} {aM : Cells} {aN : Value} {aO : Cells} {aP : Value} {aQ : Cells} {aR : Value} {aS : Cells} {aT : Value} {aU : Cells} {aV : Value} {bB : Nat} (a : Dem) (b : Dem) (ab : List Int) (ac : List Span) (ae : List Int) (ag : List Town) (ah : Int) (ai : Int) (aj : List Flood) (ao : List Int) (aq : List Span) (au : List Int) (av : List Town) (aw : Int) (ax : Int) (ay : List Flood) (aW : Reads R aB) (aX : Sl aB aC ab) (aY : Reads R aD) (aZ : Sl aD aE ac) (a6 : Reads R aF) (a7 : Sl aF aG ae) (a8 : Reads R aH) (ba : Sl aH aI ag) (bb : Reads R aJ) (bc : Sl aJ aK aj) (bf : Has R (cBlk aA [aC, aE, aG, aI, I ah, I ai, aK, .map (some az)] 86)) (bg : Has R (cBlk al [.func (.func 54) #[Pq aA] #[]] 106)) (bh : Reads R aM) (bi : Sl aM aN ao) (bj : Reads R aO) (bm : Sl aO aP aq) (bn : Reads R aQ) (bo : Sl aQ aR au) (bp : Reads R aS) (bq : Sl aS aT av) (br : Reads R aU) (bt : Sl aU aV ay) (bu : Has R (cBlk aL [aN, aP, aR, aT, I aw, I ax, aV, .map (some bB)] 86)) (bv : Has R (cBlk am [Pq aL] 72)) (bw : Has R (cBlk ak [.func (.func 69) #[] #[Pq al, Pq am]] 114)) {r : Int} (hM : (zar a b ab ac ae ag ah ai aj ao aq au av aw ax ay).Ends r) (w : World) (H : St w w [cMem encDm az B_b_k020207 (zaa ab ac ae ag ah ai aj)] R) : Ret Try.prog 71 #[.agg #[I a.spring, I a.town], .agg #[I b.spring, I b.town], Pq ak] w fun v w' => ∃ (y0 : Int) (bC : Base), y0 = r /\ v = I y0 /\ St w w' [cMem encDm az bC (zaa ab ac ae ag ah ai aj)] R := by
 refine ret_of_W Try.func71 rfl rfl rfl ?_
 refine W.seq ?_
 refine W.region rfl ?_
 refine t_box (v := .agg #[I a.spring, I a.town]) (cs := [I a.spring, I a.town]) H rfl rfl ?_
 intro bx bL H
 refine t_box (v := .agg #[I b.spring, I b.town]) (cs := [I b.spring, I b.town]) H rfl rfl ?_
 intro bz bM H
 refine zA (I 0) rfl ?_
 refine s_nil ?_
 refine W.seq ?_
 refine W.draw (fun W => St w W [cBlk bz [I b.spring, I b.town] 62, cBlk bx [I a.spring, I a.town] 62] R) [(0, true), (1, true), (3, true), (4, true), (2, false), (5, false), (6, false), (7, true)] mixed (by decide +kernel) rfl ?_
 intro bN bA
 replace H := H.ext bA
 clear bA
 refine ⟨(H.pk [0, 1]), ?_⟩
 refine d_q rfl (fun w' H => x_ld (p := Pq ak) (v := .func (.func 69) #[] #[Pq al, Pq am]) rfl (ldb_sc Sc114 (bw.blk H) rfl)) ?_
 refine d_q rfl (fun w' H => x_ld (p := Pq bz) (v := .agg #[I b.spring, I b.town]) rfl (ldb_ag (ds := [I b.spring, I b.town]) Ag62 Sz62 (H.bl 0) rfl rfl)) ?_
 refine d_q rfl (fun w' H => x_ld (p := Pq ak) (v := .func (.func 69) #[] #[Pq al, Pq am]) rfl (ldb_sc Sc114 (bw.blk H) rfl)) ?_
 refine d_q rfl (fun w' H => x_ld (p := Pq bx) (v := .agg #[I a.spring, I a.town]) rfl (ldb_ag (ds := [I a.spring, I a.town]) Ag62 Sz62 (H.bl 1) rfl rfl)) ?_
 refine d_l rfl ?_
 obtain ⟨bO, bD, hM⟩ := M.e_bind hM
 refine s_callv (f := 69) rfl cf69 [.agg #[I b.spring, I b.town]] rfl (zc2 b ab ac ae ag ah ai aj ao aq au av aw ax ay (aW.app _) aX (aY.app _) aZ (a6.app _) a7 (a8.app _) ba (bb.app _) bc (bf.app _) (bg.app _) (bh.app _) bi (bj.app _) bm (bn.app _) bo (bp.app _) bq (br.app _) bt (bu.app _) (bv.app _) bD _ ((H.pk [2, 0, 1]).gt 2)) ?_
 rintro vq bP ⟨r2, bQ, bE, hvq, aa⟩
 subst bE
 subst vq
 try dsimp only at hM
 replace H := H.pk [2, 0, 1] |>.bk aa
 clear aa
 refine s_nil ⟨(H.pk [1, 2]), ?_⟩
 refine d_l rfl ?_
 obtain ⟨bR, bF, hM⟩ := M.e_bind hM
 refine s_callv (f := 69) rfl cf69 [.agg #[I a.spring, I a.town]] rfl (zc2 a ab ac ae ag ah ai aj ao aq au av aw ax ay (aW.app _) aX (aY.app _) aZ (a6.app _) a7 (a8.app _) ba (bb.app _) bc (bf.app _) (bg.app _) (bh.app _) bi (bj.app _) bm (bn.app _) bo (bp.app _) bq (br.app _) bt (bu.app _) (bv.app _) bF _ (H.gt 2)) ?_
 rintro vq bS ⟨r3, bG, bH, hvq, aa⟩
 subst bH
 subst vq
 try dsimp only at hM
 replace H := H.bk aa
 clear aa
 refine s_nil ⟨(H.pk [1, 2]), ?_⟩
 refine d_l rfl ?_
 obtain ⟨bT, bI, hM⟩ := M.e_bind hM
 refine s_call cf72 [I r2, I r3] rfl (cmp_Compare_int_ok r2 r3 bI _ (H.gt 3)) ?_
 rintro vq bU ⟨r4, bJ, hvq, aa⟩
 subst bJ
 subst vq
 try dsimp only at hM
 replace H := H.bk aa
 clear aa
 refine s_nil ⟨(H.pk [1, 2]), ?_⟩
 refine d_q rfl (fun w' H => x_as (v := I r4) rfl) ?_
 refine d_nil ?_
 replace H := H.pk [0]
 refine W.ret ?_
 have bK := M.e_pure hM
 exact ⟨_, resE_tmp rfl, ⟨r4, bG, bK, rfl, H⟩⟩

end Go.Proofs.Ytbaehghammbjdaa
end
section
set_option maxRecDepth 100000
set_option maxHeartbeats 16000000
namespace Go.Proofs.Ytbaehghammbjdaa
open Go Go.Nm
def zbU (a : Int) (aa : List Int) (ab : List Span) (ac : List Int) (ae : List Town) (ag : Int) (ah : Int) (ai : List Flood) (aj : List Int) (ak : List Span) (al : List Int) (am : List Town) (ao : Int) (aq : Int) (au : List Flood) : ((List Dem) × Int) -> M (((List Dem) × Int) ⊕ ((List Dem) × (List Dem))) := fun (l, j) =>
  M.grd ((!(decide (a < j)) || (decide ((0 : Int) <= j) && decide (j < (l.length : Int))))) <|
  M.grd ((!(decide (a < j)) || (decide ((-9223372036854775808 : Int) <= (j - 1)) && decide ((j - 1) <= (9223372036854775807 : Int))))) <|
  M.grd ((!(decide (a < j)) || (decide ((0 : Int) <= (j - 1)) && decide ((j - 1) < (l.length : Int))))) <|
  bif decide (a < j) then (
  M.bind (zar (l.getD (Int.toNat j) default) (l.getD (Int.toNat (j - 1)) default) aa ab ac ae ag ah ai aj ak al am ao aq au) fun r2 =>
  bif ((decide (a < j)) && (decide (r2 < 0))) then (
  M.grd (decide ((-9223372036854775808 : Int) <= (j - 1)) && decide ((j - 1) <= (9223372036854775807 : Int))) <|
  M.grd (decide ((0 : Int) <= (j - 1)) && decide ((j - 1) < (l.length : Int))) <|
  M.grd (decide ((0 : Int) <= j) && decide (j < (l.length : Int))) <|
  M.grd (decide ((0 : Int) <= (j - 1)) && decide ((j - 1) < ((l.set (Int.toNat j) (l.getD (Int.toNat (j - 1)) default)).length : Int))) <|
  M.pure (.inl ((l.set (Int.toNat j) (l.getD (Int.toNat (j - 1)) default)).set (Int.toNat (j - 1)) (l.getD (Int.toNat j) default), j - 1)))
  else (
  M.pure (.inr (l, l))))
  else (
  bif ((decide (a < j)) && (decide ((0 : Int) < 0))) then (
  M.grd (decide ((-9223372036854775808 : Int) <= (j - 1)) && decide ((j - 1) <= (9223372036854775807 : Int))) <|
  M.grd (decide ((0 : Int) <= (j - 1)) && decide ((j - 1) < (l.length : Int))) <|
  M.grd (decide ((0 : Int) <= j) && decide (j < (l.length : Int))) <|
  M.grd (decide ((0 : Int) <= (j - 1)) && decide ((j - 1) < ((l.set (Int.toNat j) (l.getD (Int.toNat (j - 1)) default)).length : Int))) <|
  M.pure (.inl ((l.set (Int.toNat j) (l.getD (Int.toNat (j - 1)) default)).set (Int.toNat (j - 1)) (l.getD (Int.toNat j) default), j - 1)))
  else (
  M.pure (.inr (l, l))))
def za1 (a : Int) (b : Int) (aa : List Int) (ab : List Span) (ac : List Int) (ae : List Town) (ag : Int) (ah : Int) (ai : List Flood) (aj : List Int) (ak : List Span) (al : List Int) (am : List Town) (ao : Int) (aq : Int) (au : List Flood) : ((List Dem) × Int) -> M (((List Dem) × Int) ⊕ (List Dem)) := fun (l4, i) =>
  bif decide (i < b) then (
  M.bind (M.iter (zbU a aa ab ac ae ag ah ai aj ak al am ao aq au) (l4, i)) fun (l2, l3) =>
  M.grd (decide ((-9223372036854775808 : Int) <= (i + 1)) && decide ((i + 1) <= (9223372036854775807 : Int))) <|
  M.pure (.inl (l3, i + 1)))
  else (
  M.pure (.inr l4))
def zbm (data : List Dem) (a : Int) (b : Int) (aa : List Int) (ab : List Span) (ac : List Int) (ae : List Town) (ag : Int) (ah : Int) (ai : List Flood) (aj : List Int) (ak : List Span) (al : List Int) (am : List Town) (ao : Int) (aq : Int) (au : List Flood) : M (List Dem) :=
  M.grd (decide ((-9223372036854775808 : Int) <= (a + 1)) && decide ((a + 1) <= (9223372036854775807 : Int))) <|
  M.bind (M.iter (za1 a b aa ab ac ae ag ah ai aj ak al am ao aq au) (data, a + 1)) fun l5 =>
  M.pure l5
theorem zc3 {R : List Chunk} {aa : Value} {aB : Nat} {aQ : Nat} {aR : Nat} {aS : Cells} {aT : Value} {aU : Cells} {aV : Value} {aW : Cells} {aX : Value} {aY : Cells} {aZ : Value} {a6 : Cells} {a7 : Value} {al : Nat} {B_b_cmp2020207 : Base} {a8 : Nat} {ba : Nat} {bb : Cells} {bc : Value} {bf : Cells} {bg : Value} {bh : Cells} {bi : Value} {bj : Cells} {bm : Value} {bn : Cells} {bo : Value} {bw : Nat} (data : List Dem) (a : Int) (b : Int) (ab : List Int) (ac : List Span) (ae : List Int) (ag : List Town) (ah : Int) (ai : Int) (aj : List Flood) (aD : List Int) (aE : List Span) (aF : List Int) (aG : List Town) (aH : Int) (aI : Int) (aJ : List Flood) (bx : Reads R aS) (bz : Sl aS aT ab) (bA : Reads R aU) (bB : Sl aU aV ac) (bC : Reads R aW) (bD : Sl aW aX ae) (bE : Reads R aY) (bF : Sl aY aZ ag) (bG : Reads R a6) (bH : Sl a6 a7 aj) (bI : Has R (cBlk aR [aT, aV, aX, aZ, I ah, I ai, a7, .map (some al)] 86)) (bJ : Has R (cBlk aQ [.func (.func 54) #[Pq aR] #[]] 106)) (bK : Reads R bb) (bL : Sl bb bc aD) (bM : Reads R bf) (bN : Sl bf bg aE) (bO : Reads R bh) (bP : Sl bh bi aF) (bQ : Reads R bj) (bR : Sl bj bm aG) (bS : Reads R bn) (bT : Sl bn bo aJ) (bU : Has R (cBlk ba [bc, bg, bi, bm, I aH, I aI, bo, .map (some bw)] 86)) (bV : Has R (cBlk a8 [Pq ba] 72)) (bW : Has R (cBlk aB [.func (.func 69) #[] #[Pq aQ, Pq a8]] 114)) {r : (List Dem)} (hM : (zbm data a b ab ac ae ag ah ai aj aD aE aF aG aH aI aJ).Ends r) (w : World) (H : St w w [cOwn (α := Dem) 62 aa data, cMem encDm al B_b_cmp2020207 (zaa ab ac ae ag ah ai aj)] R) : Ret Try.prog 91 #[aa, I a, I b, .func (.func 71) #[] #[Pq aB]] w fun v w' => ∃ (y0 : List Dem) (bX : Base), y0 = r /\ v = .tuple #[] /\ St w w' [cOwn (α := Dem) 62 aa y0, cMem encDm al bX (zaa ab ac ae ag ah ai aj)] R := by
 refine ret_of_W Try.func91 rfl rfl rfl ?_
 refine W.seq ?_
 refine W.region rfl ?_
 refine zM (I a) rfl ?_
 obtain ⟨bY, hM⟩ := M.e_grd hM
 simp only [Bool.and_eq_true, decide_eq_true_eq] at bY
 refine zR a 1 (a + 1) rfl rfl rfl (by omega) ?_
 refine zA (I (a + 1)) rfl ?_
 refine s_nil ?_
 refine W.block ?_
 obtain ⟨bZ, aL, b4⟩ := M.e_bind hM
 obtain ⟨b5, aL⟩ := M.e_iter aL
 refine W.loop (fun m σ W => ∃ (l4 : List Dem) (i : Int) (B_mem2 : Base) (ρ : Env), σ = upds ρ [(0, aa), (1, I a), (2, I b), (3, .func (.func 71) #[] #[Pq aB]), (8, I i)] /\ M.iterN (za1 a b ab ac ae ag ah ai aj aD aE aF aG aH aI aJ) m (l4, i) = some bZ /\ St w W [cOwn (α := Dem) 62 aa l4, cMem encDm al B_mem2 (zaa ab ac ae ag ah ai aj)] R) ?_ ?_
 ·exact ⟨_, data, a + 1, B_b_cmp2020207, _, upds_of _ _ ⟨rfl, rfl, rfl, rfl, rfl, trivial⟩, aL, H⟩
 rintro cq σ ct ⟨l4, i, B_mem2, ρ, rfl, bp, H⟩
 obtain ⟨bq, br, cu, hM, aM⟩ := M.e_iterN bp
 simp only [za1] at hM
 clear bp
 refine W.seq ?_
 refine W.seq ?_
 refine W.region rfl ?_
 refine zM (I i) rfl ?_
 refine zM (I b) rfl ?_
 refine zC i b (decide (i < b)) rfl rfl rfl ?_
 refine s_nil ?_
 refine W.cond (decide (i < b)) rfl (fun aK => ?_) (fun aK => ?_)
 ·replace hM := M.e_t hM aK
  simp only [qy1, qy2, qy3, qy4, qy5, qy6, ne_eq, qy7] at aK
  refine W.skip ?_
  refine W.seq ?_
  refine W.block ?_
  refine W.seq ?_
  refine W.region rfl ?_
  refine zM (I i) rfl ?_
  refine zA (I i) rfl ?_
  refine s_nil ?_
  refine W.block ?_
  obtain ⟨b6, aN, bt⟩ := M.e_bind hM
  obtain ⟨b5, aN⟩ := M.e_iter aN
  refine W.loop (fun m σ W => ∃ (l : List Dem) (j : Int) (B_mem : Base) (ρ : Env), σ = upds ρ [(0, aa), (1, I a), (2, I b), (3, .func (.func 71) #[] #[Pq aB]), (8, I i), (9, I j)] /\ M.iterN (zbU a ab ac ae ag ah ai aj aD aE aF aG aH aI aJ) m (l, j) = some b6 /\ St w W [cOwn (α := Dem) 62 aa l, cMem encDm al B_mem (zaa ab ac ae ag ah ai aj)] R) ?_ ?_
  ·exact ⟨_, l4, i, B_mem2, _, upds_of _ _ ⟨rfl, rfl, rfl, rfl, rfl, rfl, trivial⟩, aN, H⟩
  rintro cw σ cx ⟨l, j, B_mem, ρ, rfl, bu, H⟩
  obtain ⟨aw, ax, cy, hM, av⟩ := M.e_iterN bu
  simp only [zbU] at hM
  clear bu
  refine W.seq ?_
  refine W.seq ?_
  refine W.draw (fun W => St w W [cOwn (α := Dem) 62 aa l] R) [(0, true), (1, true), (2, true), (3, true), (4, true), (5, true), (6, true), (7, true), (8, true), (9, true), (10, true), (11, true), (12, true), (13, true), (14, false), (15, true), (16, true)] mixed (by decide +kernel) rfl ?_
  intro cz am
  replace H := H.ext am
  clear am
  refine ⟨(H.pk [0]), ?_⟩
  refine d_q rfl (fun w' H => x_mv (v := I j) rfl) ?_
  refine d_q rfl (fun w' H => x_mv (v := I a) rfl) ?_
  refine d_q rfl (fun w' H => x_cmp (kd := .i64) (a := j) (b := a) (r := decide (a < j)) rfl rfl rfl) ?_
  refine d_q rfl (fun w' H => x_mv (v := B (decide (a < j))) rfl) ?_
  refine d_qg (decide (a < j)) rfl (gy_t rfl) (fun hg => (fun w' H => x_mv (v := .func (.func 71) #[] #[Pq aB]) rfl)) ?_
  refine d_qg (decide (a < j)) rfl (gy_t rfl) (fun hg => (fun w' H => x_mv (v := aa) rfl)) ?_
  refine d_qg (decide (a < j)) rfl (gy_t rfl) (fun hg => (fun w' H => x_mv (v := I j) rfl)) ?_
  obtain ⟨ay, hM⟩ := M.e_grd hM
  replace ay := M.imp_of ay
  simp only [Bool.and_eq_true, decide_eq_true_eq] at ay
  refine d_qg (decide (a < j)) rfl (gy_t rfl) (fun hg => (fun w' H => x_ix (a := aa) (b := I j) (v := vat aa 2 (Int.toNat j)) (gd_of (c := decide (a < j)) hg (aa)) (gd_of (c := decide (a < j)) hg (I j)) (Sl.ix (α := Dem) T57.und T57.size (H.os 0) (by have ak := ay.resolve_left (by rw [hg]; decide); first | exact ak | exact ak.1 | exact ak.2 | omega | (have am := hg; simp at am; omega)) (by have ak := ay.resolve_left (by rw [hg]; decide); first | exact ak | exact ak.1 | exact ak.2 | omega | (have am := hg; simp at am; omega))))) ?_
  refine d_qg (decide (a < j)) rfl (gy_t rfl) (fun hg => (fun w' H => x_ld (p := vat aa 2 (Int.toNat j)) (v := .agg #[I ((l.getD (Int.toNat j) default).spring), I ((l.getD (Int.toNat j) default).town)]) (gd_of (c := decide (a < j)) hg (vat aa 2 (Int.toNat j))) (ld_ag Ag62 Sz62 (At.mono (Dem_atA (H.os 0) (i := j) (by have ak := ay.resolve_left (by rw [hg]; decide); first | exact ak | exact ak.1 | exact ak.2 | omega | (have am := hg; simp at am; omega)) (by have ak := ay.resolve_left (by rw [hg]; decide); first | exact ak | exact ak.1 | exact ak.2 | omega | (have am := hg; simp at am; omega))) (H.ol 0))))) ?_
  refine d_qg (decide (a < j)) rfl (gy_t rfl) (fun hg => (fun w' H => x_mv (v := aa) rfl)) ?_
  refine d_qg (decide (a < j)) rfl (gy_t rfl) (fun hg => (fun w' H => x_mv (v := I j) rfl)) ?_
  obtain ⟨az, hM⟩ := M.e_grd hM
  replace az := M.imp_of az
  simp only [Bool.and_eq_true, decide_eq_true_eq] at az
  refine d_qg (decide (a < j)) rfl (gy_t rfl) (fun hg => (fun w' H => x_ari (a := j) (b := 1) (r := j - 1) (gd_of (c := decide (a < j)) hg (I j)) rfl rfl (by have ak := ay.resolve_left (by rw [hg]; decide); have aq := az.resolve_left (by rw [hg]; decide); first | exact ak | exact ak.1 | exact ak.2 | exact aq | exact aq.1 | exact aq.2 | omega | (have am := hg; simp at am; omega)))) ?_
  obtain ⟨aA, hM⟩ := M.e_grd hM
  replace aA := M.imp_of aA
  simp only [Bool.and_eq_true, decide_eq_true_eq] at aA
  refine d_qg (decide (a < j)) rfl (gy_t rfl) (fun hg => (fun w' H => x_ix (a := aa) (b := I (j - 1)) (v := vat aa 2 (Int.toNat (j - 1))) (gd_of (c := decide (a < j)) hg (aa)) (gd_of (c := decide (a < j)) hg (I (j - 1))) (Sl.ix (α := Dem) T57.und T57.size (H.os 0) (by have ak := ay.resolve_left (by rw [hg]; decide); have aq := az.resolve_left (by rw [hg]; decide); have au := aA.resolve_left (by rw [hg]; decide); first | exact ak | exact ak.1 | exact ak.2 | exact aq | exact aq.1 | exact aq.2 | exact au | exact au.1 | exact au.2 | omega | (have am := hg; simp at am; omega)) (by have ak := ay.resolve_left (by rw [hg]; decide); have aq := az.resolve_left (by rw [hg]; decide); have au := aA.resolve_left (by rw [hg]; decide); first | exact ak | exact ak.1 | exact ak.2 | exact aq | exact aq.1 | exact aq.2 | exact au | exact au.1 | exact au.2 | omega | (have am := hg; simp at am; omega))))) ?_
  refine d_qg (decide (a < j)) rfl (gy_t rfl) (fun hg => (fun w' H => x_ld (p := vat aa 2 (Int.toNat (j - 1))) (v := .agg #[I ((l.getD (Int.toNat (j - 1)) default).spring), I ((l.getD (Int.toNat (j - 1)) default).town)]) (gd_of (c := decide (a < j)) hg (vat aa 2 (Int.toNat (j - 1)))) (ld_ag Ag62 Sz62 (At.mono (Dem_atA (H.os 0) (i := j - 1) (by have ak := ay.resolve_left (by rw [hg]; decide); have aq := az.resolve_left (by rw [hg]; decide); have au := aA.resolve_left (by rw [hg]; decide); first | exact ak | exact ak.1 | exact ak.2 | exact aq | exact aq.1 | exact aq.2 | exact au | exact au.1 | exact au.2 | omega | (have am := hg; simp at am; omega)) (by have ak := ay.resolve_left (by rw [hg]; decide); have aq := az.resolve_left (by rw [hg]; decide); have au := aA.resolve_left (by rw [hg]; decide); first | exact ak | exact ak.1 | exact ak.2 | exact aq | exact aq.1 | exact aq.2 | exact au | exact au.1 | exact au.2 | omega | (have am := hg; simp at am; omega))) (H.ol 0))))) ?_
  refine d_l rfl ?_
  refine g_splitV (decide (a < j)) (I 0) (gy_t rfl) (fun aC => ?_) (fun aC => ?_)
  ·replace hM := M.e_t hM aC
   obtain ⟨cA, b7, hM⟩ := M.e_bind hM
   refine s_callv (f := 71) (by exact (gd_of (c := decide (a < j)) aC (.func (.func 71) #[] #[Pq aB]))) cf71 [.agg #[I ((l.getD (Int.toNat j) default).spring), I ((l.getD (Int.toNat j) default).town)], .agg #[I ((l.getD (Int.toNat (j - 1)) default).spring), I ((l.getD (Int.toNat (j - 1)) default).town)]] (by exact (lst2 (gd_of (c := decide (a < j)) aC (.agg #[I ((l.getD (Int.toNat j) default).spring), I ((l.getD (Int.toNat j) default).town)])) (gd_of (c := decide (a < j)) aC (.agg #[I ((l.getD (Int.toNat (j - 1)) default).spring), I ((l.getD (Int.toNat (j - 1)) default).town)])))) (zb4 (l.getD (Int.toNat j) default) (l.getD (Int.toNat (j - 1)) default) ab ac ae ag ah ai aj aD aE aF aG aH aI aJ (bx.app _) bz (bA.app _) bB (bC.app _) bD (bE.app _) bF (bG.app _) bH (bI.app _) (bJ.app _) (bK.app _) bL (bM.app _) bN (bO.app _) bP (bQ.app _) bR (bS.app _) bT (bU.app _) (bV.app _) (bW.app _) b7 _ ((H.pk [1, 0]).gt 1)) ?_
   rintro vq cB ⟨r2, ao, b8, hvq, bv⟩
   subst b8
   subst vq
   try dsimp only at hM
   replace H := H.pk [1, 0] |>.bk bv
   clear bv
   refine s_nil ⟨(H.pk [1]), ?_⟩
   refine d_qg (decide (a < j)) rfl (gy_t rfl) (fun hg => (fun w' H => x_cmp (kd := .i64) (a := r2) (b := 0) (r := decide (r2 < 0)) rfl rfl rfl)) ?_
   refine d_q rfl (fun w' H => x_pand (b := decide (a < j)) (r := decide (r2 < 0)) rfl (fun hb => gd_of (c := decide (a < j)) (by first | exact hb | (rw [hb]; rfl) | simp_all) (B (decide (r2 < 0)))) rfl) ?_
   refine d_nil ?_
   refine W.cond ((decide (a < j)) && (decide (r2 < 0))) rfl (fun aO => ?_) (fun aO => ?_)
   ·replace hM := M.e_t hM aO
    refine W.skip ?_
    refine W.seq ?_
    refine W.block ?_
    refine W.drawT (fun W => St w W [cMem encDm al ao (zaa ab ac ae ag ah ai aj)] R) (.q 0 (.q 1 (.q 2 (.q 3 (.q 4 (.q 5 (.q 6 (.q 7 (.q 10 (.q 11 (.l2 8 (.l2 9 (.l 12 (.l 13 (.l 14 (.l 15 (.l 16 (.l 17 .nil)))))) 12 (.l2 9 (.l 13 (.l 14 (.l 15 (.l 16 (.l 17 .nil))))) 13 (.l 9 (.l 14 (.l 15 (.l 16 (.l 17 .nil))))))) 12 (.l2 8 (.l2 9 (.l 13 (.l 14 (.l 15 (.l 16 (.l 17 .nil))))) 13 (.l 9 (.l 14 (.l 15 (.l 16 (.l 17 .nil)))))) 13 (.l 8 (.l 9 (.l 14 (.l 15 (.l 16 (.l 17 .nil)))))))))))))))))) mixed (by decide +kernel) rfl ?_
    intro cC am
    replace H := H.ext am
    clear am
    refine ⟨(H.pk [0]), ?_⟩
    refine t_q rfl (fun w' H => x_mv (v := aa) rfl) ?_
    refine t_q rfl (fun w' H => x_mv (v := I j) rfl) ?_
    refine t_q rfl (fun w' H => x_mv (v := aa) rfl) ?_
    refine t_q rfl (fun w' H => x_mv (v := I j) rfl) ?_
    obtain ⟨b9, hM⟩ := M.e_grd hM
    simp only [Bool.and_eq_true, decide_eq_true_eq] at b9
    refine t_q rfl (fun w' H => x_ari (a := j) (b := 1) (r := j - 1) rfl rfl rfl (by omega)) ?_
    refine t_q rfl (fun w' H => x_mv (v := aa) rfl) ?_
    refine t_q rfl (fun w' H => x_mv (v := I j) rfl) ?_
    refine t_q rfl (fun w' H => x_ari (a := j) (b := 1) (r := j - 1) rfl rfl rfl (by omega)) ?_
    refine t_q rfl (fun w' H => x_mv (v := aa) rfl) ?_
    refine t_q rfl (fun w' H => x_mv (v := I j) rfl) ?_
    obtain ⟨ca, hM⟩ := M.e_grd hM
    simp only [Bool.and_eq_true, decide_eq_true_eq] at ca
    obtain ⟨cb, hM⟩ := M.e_grd hM
    simp only [Bool.and_eq_true, decide_eq_true_eq] at cb
    obtain ⟨cc, hM⟩ := M.e_grd hM
    simp only [Bool.and_eq_true, decide_eq_true_eq] at cc
    refine t_l2 rfl rfl ?_ ?_
    ·skip
     refine s_val (x_ix (a := aa) (b := I (j - 1)) (v := vat aa 2 (Int.toNat (j - 1))) rfl rfl (Sl.ix (α := Dem) T57.und T57.size (H.os 1) (by omega) (by omega))) ?_
     have cD := Sl.cells (H.os 1)
     have cE := Sl.oc (H.os 1)
     refine s_nil ⟨(H.pk [0]), ?_⟩
     refine t_l2 rfl rfl ?_ ?_
     ·skip
      refine s_val (x_ld (p := vat aa 2 (Int.toNat (j - 1))) (v := .agg #[I ((l.getD (Int.toNat (j - 1)) default).spring), I ((l.getD (Int.toNat (j - 1)) default).town)]) rfl (ld_ag Ag62 Sz62 (At.mono (Dem_atA (H.os 1) (i := j - 1) (by omega) (by omega)) (H.ol 1)))) ?_
      refine s_nil ⟨(H.pk [0]), ?_⟩
      refine t_l rfl ?_
      refine s_val (x_ix (a := aa) (b := I j) (v := vat aa 2 (Int.toNat j)) rfl rfl (Sl.ix (α := Dem) T57.und T57.size (H.os 1) (by omega) (by omega))) ?_
      refine s_nil ⟨(H.pk [0]), ?_⟩
      refine t_l rfl ?_
      refine s_val (x_ld (p := vat aa 2 (Int.toNat j)) (v := .agg #[I ((l.getD (Int.toNat j) default).spring), I ((l.getD (Int.toNat j) default).town)]) rfl (ld_ag Ag62 Sz62 (At.mono (Dem_atA (H.os 1) (i := j) (by omega) (by omega)) (H.ol 1)))) ?_
      refine s_nil ⟨(H.pk [0]), ?_⟩
      refine t_l rfl ?_
      refine s_val (x_ix (a := aa) (b := I j) (v := vat aa 2 (Int.toNat j)) rfl rfl (Sl.ix (α := Dem) T57.und T57.size (H.os 1) (by omega) (by omega))) ?_
      refine s_nil ⟨(H.pk [0]), ?_⟩
      refine t_l rfl ?_
      refine t_ost (k := 1) (i := j) (l := l) (l' := l.set (Int.toNat j) (l.getD (Int.toNat (j - 1)) default)) (val := .agg #[I ((l.getD (Int.toNat (j - 1)) default).spring), I ((l.getD (Int.toNat (j - 1)) default).town)]) (L' := [cMem encDm al ao (zaa ab ac ae ag ah ai aj), cOwn (α := Dem) 62 aa (l.set (Int.toNat j) (l.getD (Int.toNat (j - 1)) default))]) H rfl Sz62 (by omega) (by omega) (l.getD (Int.toNat (j - 1)) default) rfl rfl rfl rfl rfl ?_
      intro cF H
      refine s_nil ⟨(H.pk [0]), ?_⟩
      refine t_l rfl ?_
      refine s_val (x_ix (a := aa) (b := I (j - 1)) (v := vat aa 2 (Int.toNat (j - 1))) rfl rfl (Sl.ix (α := Dem) T57.und T57.size (H.os 1) (by omega) (by omega))) ?_
      refine s_nil ⟨(H.pk [0]), ?_⟩
      refine t_l rfl ?_
      refine t_ost (k := 1) (i := j - 1) (l := l.set (Int.toNat j) (l.getD (Int.toNat (j - 1)) default)) (l' := (l.set (Int.toNat j) (l.getD (Int.toNat (j - 1)) default)).set (Int.toNat (j - 1)) (l.getD (Int.toNat j) default)) (val := .agg #[I ((l.getD (Int.toNat j) default).spring), I ((l.getD (Int.toNat j) default).town)]) (L' := [cMem encDm al ao (zaa ab ac ae ag ah ai aj), cOwn (α := Dem) 62 aa ((l.set (Int.toNat j) (l.getD (Int.toNat (j - 1)) default)).set (Int.toNat (j - 1)) (l.getD (Int.toNat j) default))]) H rfl Sz62 (by omega) (by omega) (l.getD (Int.toNat j) default) rfl rfl rfl rfl rfl ?_
      intro cG H
      refine s_nil ⟨(H.pk [0]), ?_⟩
      refine t_nil ?_
      refine W.region rfl ?_
      refine zM (I j) rfl ?_
      refine zR j 1 (j - 1) rfl rfl rfl (by omega) ?_
      refine zA (I (j - 1)) rfl ?_
      refine s_nil ?_
      exact ⟨aw, ax, (l.set (Int.toNat j) (l.getD (Int.toNat (j - 1)) default)).set (Int.toNat (j - 1)) (l.getD (Int.toNat j) default), j - 1, ao, _, upds_of _ _ ⟨rfl, rfl, rfl, rfl, rfl, rfl, trivial⟩, M.e_inl hM av, (H.pk [1, 0])⟩
     skip
     refine s_val (x_ix (a := aa) (b := I j) (v := vat aa 2 (Int.toNat j)) rfl rfl (Sl.ix (α := Dem) T57.und T57.size (H.os 1) (by omega) (by omega))) ?_
     refine s_nil ⟨(H.pk [0]), ?_⟩
     refine t_l2 rfl rfl ?_ ?_
     ·skip
      refine s_val (x_ld (p := vat aa 2 (Int.toNat (j - 1))) (v := .agg #[I ((l.getD (Int.toNat (j - 1)) default).spring), I ((l.getD (Int.toNat (j - 1)) default).town)]) rfl (ld_ag Ag62 Sz62 (At.mono (Dem_atA (H.os 1) (i := j - 1) (by omega) (by omega)) (H.ol 1)))) ?_
      refine s_nil ⟨(H.pk [0]), ?_⟩
      refine t_l rfl ?_
      refine s_val (x_ld (p := vat aa 2 (Int.toNat j)) (v := .agg #[I ((l.getD (Int.toNat j) default).spring), I ((l.getD (Int.toNat j) default).town)]) rfl (ld_ag Ag62 Sz62 (At.mono (Dem_atA (H.os 1) (i := j) (by omega) (by omega)) (H.ol 1)))) ?_
      refine s_nil ⟨(H.pk [0]), ?_⟩
      refine t_l rfl ?_
      refine s_val (x_ix (a := aa) (b := I j) (v := vat aa 2 (Int.toNat j)) rfl rfl (Sl.ix (α := Dem) T57.und T57.size (H.os 1) (by omega) (by omega))) ?_
      refine s_nil ⟨(H.pk [0]), ?_⟩
      refine t_l rfl ?_
      refine t_ost (k := 1) (i := j) (l := l) (l' := l.set (Int.toNat j) (l.getD (Int.toNat (j - 1)) default)) (val := .agg #[I ((l.getD (Int.toNat (j - 1)) default).spring), I ((l.getD (Int.toNat (j - 1)) default).town)]) (L' := [cMem encDm al ao (zaa ab ac ae ag ah ai aj), cOwn (α := Dem) 62 aa (l.set (Int.toNat j) (l.getD (Int.toNat (j - 1)) default))]) H rfl Sz62 (by omega) (by omega) (l.getD (Int.toNat (j - 1)) default) rfl rfl rfl rfl rfl ?_
      intro cH H
      refine s_nil ⟨(H.pk [0]), ?_⟩
      refine t_l rfl ?_
      refine s_val (x_ix (a := aa) (b := I (j - 1)) (v := vat aa 2 (Int.toNat (j - 1))) rfl rfl (Sl.ix (α := Dem) T57.und T57.size (H.os 1) (by omega) (by omega))) ?_
      refine s_nil ⟨(H.pk [0]), ?_⟩
      refine t_l rfl ?_
      refine t_ost (k := 1) (i := j - 1) (l := l.set (Int.toNat j) (l.getD (Int.toNat (j - 1)) default)) (l' := (l.set (Int.toNat j) (l.getD (Int.toNat (j - 1)) default)).set (Int.toNat (j - 1)) (l.getD (Int.toNat j) default)) (val := .agg #[I ((l.getD (Int.toNat j) default).spring), I ((l.getD (Int.toNat j) default).town)]) (L' := [cMem encDm al ao (zaa ab ac ae ag ah ai aj), cOwn (α := Dem) 62 aa ((l.set (Int.toNat j) (l.getD (Int.toNat (j - 1)) default)).set (Int.toNat (j - 1)) (l.getD (Int.toNat j) default))]) H rfl Sz62 (by omega) (by omega) (l.getD (Int.toNat j) default) rfl rfl rfl rfl rfl ?_
      intro cI H
      refine s_nil ⟨(H.pk [0]), ?_⟩
      refine t_nil ?_
      refine W.region rfl ?_
      refine zM (I j) rfl ?_
      refine zR j 1 (j - 1) rfl rfl rfl (by omega) ?_
      refine zA (I (j - 1)) rfl ?_
      refine s_nil ?_
      exact ⟨aw, ax, (l.set (Int.toNat j) (l.getD (Int.toNat (j - 1)) default)).set (Int.toNat (j - 1)) (l.getD (Int.toNat j) default), j - 1, ao, _, upds_of _ _ ⟨rfl, rfl, rfl, rfl, rfl, rfl, trivial⟩, M.e_inl hM av, (H.pk [1, 0])⟩
     skip
     refine s_val (x_ld (p := vat aa 2 (Int.toNat j)) (v := .agg #[I ((l.getD (Int.toNat j) default).spring), I ((l.getD (Int.toNat j) default).town)]) rfl (ld_ag Ag62 Sz62 (At.mono (Dem_atA (H.os 1) (i := j) (by omega) (by omega)) (H.ol 1)))) ?_
     refine s_nil ⟨(H.pk [0]), ?_⟩
     refine t_l rfl ?_
     refine s_val (x_ld (p := vat aa 2 (Int.toNat (j - 1))) (v := .agg #[I ((l.getD (Int.toNat (j - 1)) default).spring), I ((l.getD (Int.toNat (j - 1)) default).town)]) rfl (ld_ag Ag62 Sz62 (At.mono (Dem_atA (H.os 1) (i := j - 1) (by omega) (by omega)) (H.ol 1)))) ?_
     refine s_nil ⟨(H.pk [0]), ?_⟩
     refine t_l rfl ?_
     refine s_val (x_ix (a := aa) (b := I j) (v := vat aa 2 (Int.toNat j)) rfl rfl (Sl.ix (α := Dem) T57.und T57.size (H.os 1) (by omega) (by omega))) ?_
     refine s_nil ⟨(H.pk [0]), ?_⟩
     refine t_l rfl ?_
     refine t_ost (k := 1) (i := j) (l := l) (l' := l.set (Int.toNat j) (l.getD (Int.toNat (j - 1)) default)) (val := .agg #[I ((l.getD (Int.toNat (j - 1)) default).spring), I ((l.getD (Int.toNat (j - 1)) default).town)]) (L' := [cMem encDm al ao (zaa ab ac ae ag ah ai aj), cOwn (α := Dem) 62 aa (l.set (Int.toNat j) (l.getD (Int.toNat (j - 1)) default))]) H rfl Sz62 (by omega) (by omega) (l.getD (Int.toNat (j - 1)) default) rfl rfl rfl rfl rfl ?_
     intro cJ H
     refine s_nil ⟨(H.pk [0]), ?_⟩
     refine t_l rfl ?_
     refine s_val (x_ix (a := aa) (b := I (j - 1)) (v := vat aa 2 (Int.toNat (j - 1))) rfl rfl (Sl.ix (α := Dem) T57.und T57.size (H.os 1) (by omega) (by omega))) ?_
     refine s_nil ⟨(H.pk [0]), ?_⟩
     refine t_l rfl ?_
     refine t_ost (k := 1) (i := j - 1) (l := l.set (Int.toNat j) (l.getD (Int.toNat (j - 1)) default)) (l' := (l.set (Int.toNat j) (l.getD (Int.toNat (j - 1)) default)).set (Int.toNat (j - 1)) (l.getD (Int.toNat j) default)) (val := .agg #[I ((l.getD (Int.toNat j) default).spring), I ((l.getD (Int.toNat j) default).town)]) (L' := [cMem encDm al ao (zaa ab ac ae ag ah ai aj), cOwn (α := Dem) 62 aa ((l.set (Int.toNat j) (l.getD (Int.toNat (j - 1)) default)).set (Int.toNat (j - 1)) (l.getD (Int.toNat j) default))]) H rfl Sz62 (by omega) (by omega) (l.getD (Int.toNat j) default) rfl rfl rfl rfl rfl ?_
     intro cK H
     refine s_nil ⟨(H.pk [0]), ?_⟩
     refine t_nil ?_
     refine W.region rfl ?_
     refine zM (I j) rfl ?_
     refine zR j 1 (j - 1) rfl rfl rfl (by omega) ?_
     refine zA (I (j - 1)) rfl ?_
     refine s_nil ?_
     exact ⟨aw, ax, (l.set (Int.toNat j) (l.getD (Int.toNat (j - 1)) default)).set (Int.toNat (j - 1)) (l.getD (Int.toNat j) default), j - 1, ao, _, upds_of _ _ ⟨rfl, rfl, rfl, rfl, rfl, rfl, trivial⟩, M.e_inl hM av, (H.pk [1, 0])⟩
    skip
    refine s_val (x_ix (a := aa) (b := I j) (v := vat aa 2 (Int.toNat j)) rfl rfl (Sl.ix (α := Dem) T57.und T57.size (H.os 1) (by omega) (by omega))) ?_
    have cL := Sl.cells (H.os 1)
    have cM := Sl.oc (H.os 1)
    refine s_nil ⟨(H.pk [0]), ?_⟩
    refine t_l2 rfl rfl ?_ ?_
    ·skip
     refine s_val (x_ix (a := aa) (b := I (j - 1)) (v := vat aa 2 (Int.toNat (j - 1))) rfl rfl (Sl.ix (α := Dem) T57.und T57.size (H.os 1) (by omega) (by omega))) ?_
     refine s_nil ⟨(H.pk [0]), ?_⟩
     refine t_l2 rfl rfl ?_ ?_
     ·skip
      refine s_val (x_ld (p := vat aa 2 (Int.toNat (j - 1))) (v := .agg #[I ((l.getD (Int.toNat (j - 1)) default).spring), I ((l.getD (Int.toNat (j - 1)) default).town)]) rfl (ld_ag Ag62 Sz62 (At.mono (Dem_atA (H.os 1) (i := j - 1) (by omega) (by omega)) (H.ol 1)))) ?_
      refine s_nil ⟨(H.pk [0]), ?_⟩
      refine t_l rfl ?_
      refine s_val (x_ld (p := vat aa 2 (Int.toNat j)) (v := .agg #[I ((l.getD (Int.toNat j) default).spring), I ((l.getD (Int.toNat j) default).town)]) rfl (ld_ag Ag62 Sz62 (At.mono (Dem_atA (H.os 1) (i := j) (by omega) (by omega)) (H.ol 1)))) ?_
      refine s_nil ⟨(H.pk [0]), ?_⟩
      refine t_l rfl ?_
      refine s_val (x_ix (a := aa) (b := I j) (v := vat aa 2 (Int.toNat j)) rfl rfl (Sl.ix (α := Dem) T57.und T57.size (H.os 1) (by omega) (by omega))) ?_
      refine s_nil ⟨(H.pk [0]), ?_⟩
      refine t_l rfl ?_
      refine t_ost (k := 1) (i := j) (l := l) (l' := l.set (Int.toNat j) (l.getD (Int.toNat (j - 1)) default)) (val := .agg #[I ((l.getD (Int.toNat (j - 1)) default).spring), I ((l.getD (Int.toNat (j - 1)) default).town)]) (L' := [cMem encDm al ao (zaa ab ac ae ag ah ai aj), cOwn (α := Dem) 62 aa (l.set (Int.toNat j) (l.getD (Int.toNat (j - 1)) default))]) H rfl Sz62 (by omega) (by omega) (l.getD (Int.toNat (j - 1)) default) rfl rfl rfl rfl rfl ?_
      intro cN H
      refine s_nil ⟨(H.pk [0]), ?_⟩
      refine t_l rfl ?_
      refine s_val (x_ix (a := aa) (b := I (j - 1)) (v := vat aa 2 (Int.toNat (j - 1))) rfl rfl (Sl.ix (α := Dem) T57.und T57.size (H.os 1) (by omega) (by omega))) ?_
      refine s_nil ⟨(H.pk [0]), ?_⟩
      refine t_l rfl ?_
      refine t_ost (k := 1) (i := j - 1) (l := l.set (Int.toNat j) (l.getD (Int.toNat (j - 1)) default)) (l' := (l.set (Int.toNat j) (l.getD (Int.toNat (j - 1)) default)).set (Int.toNat (j - 1)) (l.getD (Int.toNat j) default)) (val := .agg #[I ((l.getD (Int.toNat j) default).spring), I ((l.getD (Int.toNat j) default).town)]) (L' := [cMem encDm al ao (zaa ab ac ae ag ah ai aj), cOwn (α := Dem) 62 aa ((l.set (Int.toNat j) (l.getD (Int.toNat (j - 1)) default)).set (Int.toNat (j - 1)) (l.getD (Int.toNat j) default))]) H rfl Sz62 (by omega) (by omega) (l.getD (Int.toNat j) default) rfl rfl rfl rfl rfl ?_
      intro cO H
      refine s_nil ⟨(H.pk [0]), ?_⟩
      refine t_nil ?_
      refine W.region rfl ?_
      refine zM (I j) rfl ?_
      refine zR j 1 (j - 1) rfl rfl rfl (by omega) ?_
      refine zA (I (j - 1)) rfl ?_
      refine s_nil ?_
      exact ⟨aw, ax, (l.set (Int.toNat j) (l.getD (Int.toNat (j - 1)) default)).set (Int.toNat (j - 1)) (l.getD (Int.toNat j) default), j - 1, ao, _, upds_of _ _ ⟨rfl, rfl, rfl, rfl, rfl, rfl, trivial⟩, M.e_inl hM av, (H.pk [1, 0])⟩
     skip
     refine s_val (x_ld (p := vat aa 2 (Int.toNat j)) (v := .agg #[I ((l.getD (Int.toNat j) default).spring), I ((l.getD (Int.toNat j) default).town)]) rfl (ld_ag Ag62 Sz62 (At.mono (Dem_atA (H.os 1) (i := j) (by omega) (by omega)) (H.ol 1)))) ?_
     refine s_nil ⟨(H.pk [0]), ?_⟩
     refine t_l rfl ?_
     refine s_val (x_ld (p := vat aa 2 (Int.toNat (j - 1))) (v := .agg #[I ((l.getD (Int.toNat (j - 1)) default).spring), I ((l.getD (Int.toNat (j - 1)) default).town)]) rfl (ld_ag Ag62 Sz62 (At.mono (Dem_atA (H.os 1) (i := j - 1) (by omega) (by omega)) (H.ol 1)))) ?_
     refine s_nil ⟨(H.pk [0]), ?_⟩
     refine t_l rfl ?_
     refine s_val (x_ix (a := aa) (b := I j) (v := vat aa 2 (Int.toNat j)) rfl rfl (Sl.ix (α := Dem) T57.und T57.size (H.os 1) (by omega) (by omega))) ?_
     refine s_nil ⟨(H.pk [0]), ?_⟩
     refine t_l rfl ?_
     refine t_ost (k := 1) (i := j) (l := l) (l' := l.set (Int.toNat j) (l.getD (Int.toNat (j - 1)) default)) (val := .agg #[I ((l.getD (Int.toNat (j - 1)) default).spring), I ((l.getD (Int.toNat (j - 1)) default).town)]) (L' := [cMem encDm al ao (zaa ab ac ae ag ah ai aj), cOwn (α := Dem) 62 aa (l.set (Int.toNat j) (l.getD (Int.toNat (j - 1)) default))]) H rfl Sz62 (by omega) (by omega) (l.getD (Int.toNat (j - 1)) default) rfl rfl rfl rfl rfl ?_
     intro cP H
     refine s_nil ⟨(H.pk [0]), ?_⟩
     refine t_l rfl ?_
     refine s_val (x_ix (a := aa) (b := I (j - 1)) (v := vat aa 2 (Int.toNat (j - 1))) rfl rfl (Sl.ix (α := Dem) T57.und T57.size (H.os 1) (by omega) (by omega))) ?_
     refine s_nil ⟨(H.pk [0]), ?_⟩
     refine t_l rfl ?_
     refine t_ost (k := 1) (i := j - 1) (l := l.set (Int.toNat j) (l.getD (Int.toNat (j - 1)) default)) (l' := (l.set (Int.toNat j) (l.getD (Int.toNat (j - 1)) default)).set (Int.toNat (j - 1)) (l.getD (Int.toNat j) default)) (val := .agg #[I ((l.getD (Int.toNat j) default).spring), I ((l.getD (Int.toNat j) default).town)]) (L' := [cMem encDm al ao (zaa ab ac ae ag ah ai aj), cOwn (α := Dem) 62 aa ((l.set (Int.toNat j) (l.getD (Int.toNat (j - 1)) default)).set (Int.toNat (j - 1)) (l.getD (Int.toNat j) default))]) H rfl Sz62 (by omega) (by omega) (l.getD (Int.toNat j) default) rfl rfl rfl rfl rfl ?_
     intro cQ H
     refine s_nil ⟨(H.pk [0]), ?_⟩
     refine t_nil ?_
     refine W.region rfl ?_
     refine zM (I j) rfl ?_
     refine zR j 1 (j - 1) rfl rfl rfl (by omega) ?_
     refine zA (I (j - 1)) rfl ?_
     refine s_nil ?_
     exact ⟨aw, ax, (l.set (Int.toNat j) (l.getD (Int.toNat (j - 1)) default)).set (Int.toNat (j - 1)) (l.getD (Int.toNat j) default), j - 1, ao, _, upds_of _ _ ⟨rfl, rfl, rfl, rfl, rfl, rfl, trivial⟩, M.e_inl hM av, (H.pk [1, 0])⟩
    skip
    refine s_val (x_ld (p := vat aa 2 (Int.toNat j)) (v := .agg #[I ((l.getD (Int.toNat j) default).spring), I ((l.getD (Int.toNat j) default).town)]) rfl (ld_ag Ag62 Sz62 (At.mono (Dem_atA (H.os 1) (i := j) (by omega) (by omega)) (H.ol 1)))) ?_
    refine s_nil ⟨(H.pk [0]), ?_⟩
    refine t_l rfl ?_
    refine s_val (x_ix (a := aa) (b := I (j - 1)) (v := vat aa 2 (Int.toNat (j - 1))) rfl rfl (Sl.ix (α := Dem) T57.und T57.size (H.os 1) (by omega) (by omega))) ?_
    refine s_nil ⟨(H.pk [0]), ?_⟩
    refine t_l rfl ?_
    refine s_val (x_ld (p := vat aa 2 (Int.toNat (j - 1))) (v := .agg #[I ((l.getD (Int.toNat (j - 1)) default).spring), I ((l.getD (Int.toNat (j - 1)) default).town)]) rfl (ld_ag Ag62 Sz62 (At.mono (Dem_atA (H.os 1) (i := j - 1) (by omega) (by omega)) (H.ol 1)))) ?_
    refine s_nil ⟨(H.pk [0]), ?_⟩
    refine t_l rfl ?_
    refine s_val (x_ix (a := aa) (b := I j) (v := vat aa 2 (Int.toNat j)) rfl rfl (Sl.ix (α := Dem) T57.und T57.size (H.os 1) (by omega) (by omega))) ?_
    refine s_nil ⟨(H.pk [0]), ?_⟩
    refine t_l rfl ?_
    refine t_ost (k := 1) (i := j) (l := l) (l' := l.set (Int.toNat j) (l.getD (Int.toNat (j - 1)) default)) (val := .agg #[I ((l.getD (Int.toNat (j - 1)) default).spring), I ((l.getD (Int.toNat (j - 1)) default).town)]) (L' := [cMem encDm al ao (zaa ab ac ae ag ah ai aj), cOwn (α := Dem) 62 aa (l.set (Int.toNat j) (l.getD (Int.toNat (j - 1)) default))]) H rfl Sz62 (by omega) (by omega) (l.getD (Int.toNat (j - 1)) default) rfl rfl rfl rfl rfl ?_
    intro cR H
    refine s_nil ⟨(H.pk [0]), ?_⟩
    refine t_l rfl ?_
    refine s_val (x_ix (a := aa) (b := I (j - 1)) (v := vat aa 2 (Int.toNat (j - 1))) rfl rfl (Sl.ix (α := Dem) T57.und T57.size (H.os 1) (by omega) (by omega))) ?_
    refine s_nil ⟨(H.pk [0]), ?_⟩
    refine t_l rfl ?_
    refine t_ost (k := 1) (i := j - 1) (l := l.set (Int.toNat j) (l.getD (Int.toNat (j - 1)) default)) (l' := (l.set (Int.toNat j) (l.getD (Int.toNat (j - 1)) default)).set (Int.toNat (j - 1)) (l.getD (Int.toNat j) default)) (val := .agg #[I ((l.getD (Int.toNat j) default).spring), I ((l.getD (Int.toNat j) default).town)]) (L' := [cMem encDm al ao (zaa ab ac ae ag ah ai aj), cOwn (α := Dem) 62 aa ((l.set (Int.toNat j) (l.getD (Int.toNat (j - 1)) default)).set (Int.toNat (j - 1)) (l.getD (Int.toNat j) default))]) H rfl Sz62 (by omega) (by omega) (l.getD (Int.toNat j) default) rfl rfl rfl rfl rfl ?_
    intro cS H
    refine s_nil ⟨(H.pk [0]), ?_⟩
    refine t_nil ?_
    refine W.region rfl ?_
    refine zM (I j) rfl ?_
    refine zR j 1 (j - 1) rfl rfl rfl (by omega) ?_
    refine zA (I (j - 1)) rfl ?_
    refine s_nil ?_
    exact ⟨aw, ax, (l.set (Int.toNat j) (l.getD (Int.toNat (j - 1)) default)).set (Int.toNat (j - 1)) (l.getD (Int.toNat j) default), j - 1, ao, _, upds_of _ _ ⟨rfl, rfl, rfl, rfl, rfl, rfl, trivial⟩, M.e_inl hM av, (H.pk [1, 0])⟩
   replace hM := M.e_f hM aO
   refine W.exit ?_
   have cd := M.e_inr hM av
   subst cd
   replace hM := bt
   try dsimp only at hM
   refine W.region rfl ?_
   refine zM (I i) rfl ?_
   obtain ⟨ce, hM⟩ := M.e_grd hM
   simp only [Bool.and_eq_true, decide_eq_true_eq] at ce
   refine zR i 1 (i + 1) rfl rfl rfl (by omega) ?_
   refine zA (I (i + 1)) rfl ?_
   refine s_nil ?_
   exact ⟨bq, br, l, i + 1, ao, _, upds_of _ _ ⟨rfl, rfl, rfl, rfl, rfl, trivial⟩, M.e_inl hM aM, (H.pk [1, 0])⟩
  replace hM := M.e_f hM aC
  refine s_nil ⟨(H.pk [0]), ?_⟩
  refine d_qg (decide (a < j)) rfl (gy_t rfl) (fun hg => (fun w' H => x_cmp (kd := .i64) (a := 0) (b := 0) (r := decide ((0 : Int) < 0)) (gd_of (c := decide (a < j)) hg (I 0)) rfl rfl)) ?_
  refine d_q rfl (fun w' H => x_pand (b := decide (a < j)) (r := decide ((0 : Int) < 0)) rfl (fun hb => gd_of (c := decide (a < j)) (by first | exact hb | (rw [hb]; rfl) | simp_all) (B (decide ((0 : Int) < 0)))) rfl) ?_
  refine d_nil ?_
  refine W.cond ((decide (a < j)) && (decide ((0 : Int) < 0))) rfl (fun aP => ?_) (fun aP => ?_)
  ·replace hM := M.e_t hM aP
   refine W.skip ?_
   refine W.seq ?_
   refine W.block ?_
   refine W.drawT (fun W => St w W [cMem encDm al B_mem (zaa ab ac ae ag ah ai aj)] R) (.q 0 (.q 1 (.q 2 (.q 3 (.q 4 (.q 5 (.q 6 (.q 7 (.q 10 (.q 11 (.l2 8 (.l2 9 (.l 12 (.l 13 (.l 14 (.l 15 (.l 16 (.l 17 .nil)))))) 12 (.l2 9 (.l 13 (.l 14 (.l 15 (.l 16 (.l 17 .nil))))) 13 (.l 9 (.l 14 (.l 15 (.l 16 (.l 17 .nil))))))) 12 (.l2 8 (.l2 9 (.l 13 (.l 14 (.l 15 (.l 16 (.l 17 .nil))))) 13 (.l 9 (.l 14 (.l 15 (.l 16 (.l 17 .nil)))))) 13 (.l 8 (.l 9 (.l 14 (.l 15 (.l 16 (.l 17 .nil)))))))))))))))))) mixed (by decide +kernel) rfl ?_
   intro cT am
   replace H := H.ext am
   clear am
   refine ⟨(H.pk [1]), ?_⟩
   refine t_q rfl (fun w' H => x_mv (v := aa) rfl) ?_
   refine t_q rfl (fun w' H => x_mv (v := I j) rfl) ?_
   refine t_q rfl (fun w' H => x_mv (v := aa) rfl) ?_
   refine t_q rfl (fun w' H => x_mv (v := I j) rfl) ?_
   obtain ⟨cf, hM⟩ := M.e_grd hM
   simp only [Bool.and_eq_true, decide_eq_true_eq] at cf
   refine t_q rfl (fun w' H => x_ari (a := j) (b := 1) (r := j - 1) rfl rfl rfl (by omega)) ?_
   refine t_q rfl (fun w' H => x_mv (v := aa) rfl) ?_
   refine t_q rfl (fun w' H => x_mv (v := I j) rfl) ?_
   refine t_q rfl (fun w' H => x_ari (a := j) (b := 1) (r := j - 1) rfl rfl rfl (by omega)) ?_
   refine t_q rfl (fun w' H => x_mv (v := aa) rfl) ?_
   refine t_q rfl (fun w' H => x_mv (v := I j) rfl) ?_
   obtain ⟨cg, hM⟩ := M.e_grd hM
   simp only [Bool.and_eq_true, decide_eq_true_eq] at cg
   obtain ⟨ch, hM⟩ := M.e_grd hM
   simp only [Bool.and_eq_true, decide_eq_true_eq] at ch
   obtain ⟨ck, hM⟩ := M.e_grd hM
   simp only [Bool.and_eq_true, decide_eq_true_eq] at ck
   refine t_l2 rfl rfl ?_ ?_
   ·skip
    refine s_val (x_ix (a := aa) (b := I (j - 1)) (v := vat aa 2 (Int.toNat (j - 1))) rfl rfl (Sl.ix (α := Dem) T57.und T57.size (H.os 0) (by omega) (by omega))) ?_
    have cU := Sl.cells (H.os 0)
    have cV := Sl.oc (H.os 0)
    refine s_nil ⟨(H.pk [1]), ?_⟩
    refine t_l2 rfl rfl ?_ ?_
    ·skip
     refine s_val (x_ld (p := vat aa 2 (Int.toNat (j - 1))) (v := .agg #[I ((l.getD (Int.toNat (j - 1)) default).spring), I ((l.getD (Int.toNat (j - 1)) default).town)]) rfl (ld_ag Ag62 Sz62 (At.mono (Dem_atA (H.os 0) (i := j - 1) (by omega) (by omega)) (H.ol 0)))) ?_
     refine s_nil ⟨(H.pk [1]), ?_⟩
     refine t_l rfl ?_
     refine s_val (x_ix (a := aa) (b := I j) (v := vat aa 2 (Int.toNat j)) rfl rfl (Sl.ix (α := Dem) T57.und T57.size (H.os 0) (by omega) (by omega))) ?_
     refine s_nil ⟨(H.pk [1]), ?_⟩
     refine t_l rfl ?_
     refine s_val (x_ld (p := vat aa 2 (Int.toNat j)) (v := .agg #[I ((l.getD (Int.toNat j) default).spring), I ((l.getD (Int.toNat j) default).town)]) rfl (ld_ag Ag62 Sz62 (At.mono (Dem_atA (H.os 0) (i := j) (by omega) (by omega)) (H.ol 0)))) ?_
     refine s_nil ⟨(H.pk [1]), ?_⟩
     refine t_l rfl ?_
     refine s_val (x_ix (a := aa) (b := I j) (v := vat aa 2 (Int.toNat j)) rfl rfl (Sl.ix (α := Dem) T57.und T57.size (H.os 0) (by omega) (by omega))) ?_
     refine s_nil ⟨(H.pk [1]), ?_⟩
     refine t_l rfl ?_
     refine t_ost (k := 0) (i := j) (l := l) (l' := l.set (Int.toNat j) (l.getD (Int.toNat (j - 1)) default)) (val := .agg #[I ((l.getD (Int.toNat (j - 1)) default).spring), I ((l.getD (Int.toNat (j - 1)) default).town)]) (L' := [cOwn (α := Dem) 62 aa (l.set (Int.toNat j) (l.getD (Int.toNat (j - 1)) default)), cMem encDm al B_mem (zaa ab ac ae ag ah ai aj)]) H rfl Sz62 (by omega) (by omega) (l.getD (Int.toNat (j - 1)) default) rfl rfl rfl rfl rfl ?_
     intro cW H
     refine s_nil ⟨(H.pk [1]), ?_⟩
     refine t_l rfl ?_
     refine s_val (x_ix (a := aa) (b := I (j - 1)) (v := vat aa 2 (Int.toNat (j - 1))) rfl rfl (Sl.ix (α := Dem) T57.und T57.size (H.os 0) (by omega) (by omega))) ?_
     refine s_nil ⟨(H.pk [1]), ?_⟩
     refine t_l rfl ?_
     refine t_ost (k := 0) (i := j - 1) (l := l.set (Int.toNat j) (l.getD (Int.toNat (j - 1)) default)) (l' := (l.set (Int.toNat j) (l.getD (Int.toNat (j - 1)) default)).set (Int.toNat (j - 1)) (l.getD (Int.toNat j) default)) (val := .agg #[I ((l.getD (Int.toNat j) default).spring), I ((l.getD (Int.toNat j) default).town)]) (L' := [cOwn (α := Dem) 62 aa ((l.set (Int.toNat j) (l.getD (Int.toNat (j - 1)) default)).set (Int.toNat (j - 1)) (l.getD (Int.toNat j) default)), cMem encDm al B_mem (zaa ab ac ae ag ah ai aj)]) H rfl Sz62 (by omega) (by omega) (l.getD (Int.toNat j) default) rfl rfl rfl rfl rfl ?_
     intro cX H
     refine s_nil ⟨(H.pk [1]), ?_⟩
     refine t_nil ?_
     refine W.region rfl ?_
     refine zM (I j) rfl ?_
     refine zR j 1 (j - 1) rfl rfl rfl (by omega) ?_
     refine zA (I (j - 1)) rfl ?_
     refine s_nil ?_
     exact ⟨aw, ax, (l.set (Int.toNat j) (l.getD (Int.toNat (j - 1)) default)).set (Int.toNat (j - 1)) (l.getD (Int.toNat j) default), j - 1, B_mem, _, upds_of _ _ ⟨rfl, rfl, rfl, rfl, rfl, rfl, trivial⟩, M.e_inl hM av, H⟩
    skip
    refine s_val (x_ix (a := aa) (b := I j) (v := vat aa 2 (Int.toNat j)) rfl rfl (Sl.ix (α := Dem) T57.und T57.size (H.os 0) (by omega) (by omega))) ?_
    refine s_nil ⟨(H.pk [1]), ?_⟩
    refine t_l2 rfl rfl ?_ ?_
    ·skip
     refine s_val (x_ld (p := vat aa 2 (Int.toNat (j - 1))) (v := .agg #[I ((l.getD (Int.toNat (j - 1)) default).spring), I ((l.getD (Int.toNat (j - 1)) default).town)]) rfl (ld_ag Ag62 Sz62 (At.mono (Dem_atA (H.os 0) (i := j - 1) (by omega) (by omega)) (H.ol 0)))) ?_
     refine s_nil ⟨(H.pk [1]), ?_⟩
     refine t_l rfl ?_
     refine s_val (x_ld (p := vat aa 2 (Int.toNat j)) (v := .agg #[I ((l.getD (Int.toNat j) default).spring), I ((l.getD (Int.toNat j) default).town)]) rfl (ld_ag Ag62 Sz62 (At.mono (Dem_atA (H.os 0) (i := j) (by omega) (by omega)) (H.ol 0)))) ?_
     refine s_nil ⟨(H.pk [1]), ?_⟩
     refine t_l rfl ?_
     refine s_val (x_ix (a := aa) (b := I j) (v := vat aa 2 (Int.toNat j)) rfl rfl (Sl.ix (α := Dem) T57.und T57.size (H.os 0) (by omega) (by omega))) ?_
     refine s_nil ⟨(H.pk [1]), ?_⟩
     refine t_l rfl ?_
     refine t_ost (k := 0) (i := j) (l := l) (l' := l.set (Int.toNat j) (l.getD (Int.toNat (j - 1)) default)) (val := .agg #[I ((l.getD (Int.toNat (j - 1)) default).spring), I ((l.getD (Int.toNat (j - 1)) default).town)]) (L' := [cOwn (α := Dem) 62 aa (l.set (Int.toNat j) (l.getD (Int.toNat (j - 1)) default)), cMem encDm al B_mem (zaa ab ac ae ag ah ai aj)]) H rfl Sz62 (by omega) (by omega) (l.getD (Int.toNat (j - 1)) default) rfl rfl rfl rfl rfl ?_
     intro cY H
     refine s_nil ⟨(H.pk [1]), ?_⟩
     refine t_l rfl ?_
     refine s_val (x_ix (a := aa) (b := I (j - 1)) (v := vat aa 2 (Int.toNat (j - 1))) rfl rfl (Sl.ix (α := Dem) T57.und T57.size (H.os 0) (by omega) (by omega))) ?_
     refine s_nil ⟨(H.pk [1]), ?_⟩
     refine t_l rfl ?_
     refine t_ost (k := 0) (i := j - 1) (l := l.set (Int.toNat j) (l.getD (Int.toNat (j - 1)) default)) (l' := (l.set (Int.toNat j) (l.getD (Int.toNat (j - 1)) default)).set (Int.toNat (j - 1)) (l.getD (Int.toNat j) default)) (val := .agg #[I ((l.getD (Int.toNat j) default).spring), I ((l.getD (Int.toNat j) default).town)]) (L' := [cOwn (α := Dem) 62 aa ((l.set (Int.toNat j) (l.getD (Int.toNat (j - 1)) default)).set (Int.toNat (j - 1)) (l.getD (Int.toNat j) default)), cMem encDm al B_mem (zaa ab ac ae ag ah ai aj)]) H rfl Sz62 (by omega) (by omega) (l.getD (Int.toNat j) default) rfl rfl rfl rfl rfl ?_
     intro cZ H
     refine s_nil ⟨(H.pk [1]), ?_⟩
     refine t_nil ?_
     refine W.region rfl ?_
     refine zM (I j) rfl ?_
     refine zR j 1 (j - 1) rfl rfl rfl (by omega) ?_
     refine zA (I (j - 1)) rfl ?_
     refine s_nil ?_
     exact ⟨aw, ax, (l.set (Int.toNat j) (l.getD (Int.toNat (j - 1)) default)).set (Int.toNat (j - 1)) (l.getD (Int.toNat j) default), j - 1, B_mem, _, upds_of _ _ ⟨rfl, rfl, rfl, rfl, rfl, rfl, trivial⟩, M.e_inl hM av, H⟩
    skip
    refine s_val (x_ld (p := vat aa 2 (Int.toNat j)) (v := .agg #[I ((l.getD (Int.toNat j) default).spring), I ((l.getD (Int.toNat j) default).town)]) rfl (ld_ag Ag62 Sz62 (At.mono (Dem_atA (H.os 0) (i := j) (by omega) (by omega)) (H.ol 0)))) ?_
    refine s_nil ⟨(H.pk [1]), ?_⟩
    refine t_l rfl ?_
    refine s_val (x_ld (p := vat aa 2 (Int.toNat (j - 1))) (v := .agg #[I ((l.getD (Int.toNat (j - 1)) default).spring), I ((l.getD (Int.toNat (j - 1)) default).town)]) rfl (ld_ag Ag62 Sz62 (At.mono (Dem_atA (H.os 0) (i := j - 1) (by omega) (by omega)) (H.ol 0)))) ?_
    refine s_nil ⟨(H.pk [1]), ?_⟩
    refine t_l rfl ?_
    refine s_val (x_ix (a := aa) (b := I j) (v := vat aa 2 (Int.toNat j)) rfl rfl (Sl.ix (α := Dem) T57.und T57.size (H.os 0) (by omega) (by omega))) ?_
    refine s_nil ⟨(H.pk [1]), ?_⟩
    refine t_l rfl ?_
    refine t_ost (k := 0) (i := j) (l := l) (l' := l.set (Int.toNat j) (l.getD (Int.toNat (j - 1)) default)) (val := .agg #[I ((l.getD (Int.toNat (j - 1)) default).spring), I ((l.getD (Int.toNat (j - 1)) default).town)]) (L' := [cOwn (α := Dem) 62 aa (l.set (Int.toNat j) (l.getD (Int.toNat (j - 1)) default)), cMem encDm al B_mem (zaa ab ac ae ag ah ai aj)]) H rfl Sz62 (by omega) (by omega) (l.getD (Int.toNat (j - 1)) default) rfl rfl rfl rfl rfl ?_
    intro c0 H
    refine s_nil ⟨(H.pk [1]), ?_⟩
    refine t_l rfl ?_
    refine s_val (x_ix (a := aa) (b := I (j - 1)) (v := vat aa 2 (Int.toNat (j - 1))) rfl rfl (Sl.ix (α := Dem) T57.und T57.size (H.os 0) (by omega) (by omega))) ?_
    refine s_nil ⟨(H.pk [1]), ?_⟩
    refine t_l rfl ?_
    refine t_ost (k := 0) (i := j - 1) (l := l.set (Int.toNat j) (l.getD (Int.toNat (j - 1)) default)) (l' := (l.set (Int.toNat j) (l.getD (Int.toNat (j - 1)) default)).set (Int.toNat (j - 1)) (l.getD (Int.toNat j) default)) (val := .agg #[I ((l.getD (Int.toNat j) default).spring), I ((l.getD (Int.toNat j) default).town)]) (L' := [cOwn (α := Dem) 62 aa ((l.set (Int.toNat j) (l.getD (Int.toNat (j - 1)) default)).set (Int.toNat (j - 1)) (l.getD (Int.toNat j) default)), cMem encDm al B_mem (zaa ab ac ae ag ah ai aj)]) H rfl Sz62 (by omega) (by omega) (l.getD (Int.toNat j) default) rfl rfl rfl rfl rfl ?_
    intro c6 H
    refine s_nil ⟨(H.pk [1]), ?_⟩
    refine t_nil ?_
    refine W.region rfl ?_
    refine zM (I j) rfl ?_
    refine zR j 1 (j - 1) rfl rfl rfl (by omega) ?_
    refine zA (I (j - 1)) rfl ?_
    refine s_nil ?_
    exact ⟨aw, ax, (l.set (Int.toNat j) (l.getD (Int.toNat (j - 1)) default)).set (Int.toNat (j - 1)) (l.getD (Int.toNat j) default), j - 1, B_mem, _, upds_of _ _ ⟨rfl, rfl, rfl, rfl, rfl, rfl, trivial⟩, M.e_inl hM av, H⟩
   skip
   refine s_val (x_ix (a := aa) (b := I j) (v := vat aa 2 (Int.toNat j)) rfl rfl (Sl.ix (α := Dem) T57.und T57.size (H.os 0) (by omega) (by omega))) ?_
   have c7 := Sl.cells (H.os 0)
   have c8 := Sl.oc (H.os 0)
   refine s_nil ⟨(H.pk [1]), ?_⟩
   refine t_l2 rfl rfl ?_ ?_
   ·skip
    refine s_val (x_ix (a := aa) (b := I (j - 1)) (v := vat aa 2 (Int.toNat (j - 1))) rfl rfl (Sl.ix (α := Dem) T57.und T57.size (H.os 0) (by omega) (by omega))) ?_
    refine s_nil ⟨(H.pk [1]), ?_⟩
    refine t_l2 rfl rfl ?_ ?_
    ·skip
     refine s_val (x_ld (p := vat aa 2 (Int.toNat (j - 1))) (v := .agg #[I ((l.getD (Int.toNat (j - 1)) default).spring), I ((l.getD (Int.toNat (j - 1)) default).town)]) rfl (ld_ag Ag62 Sz62 (At.mono (Dem_atA (H.os 0) (i := j - 1) (by omega) (by omega)) (H.ol 0)))) ?_
     refine s_nil ⟨(H.pk [1]), ?_⟩
     refine t_l rfl ?_
     refine s_val (x_ld (p := vat aa 2 (Int.toNat j)) (v := .agg #[I ((l.getD (Int.toNat j) default).spring), I ((l.getD (Int.toNat j) default).town)]) rfl (ld_ag Ag62 Sz62 (At.mono (Dem_atA (H.os 0) (i := j) (by omega) (by omega)) (H.ol 0)))) ?_
     refine s_nil ⟨(H.pk [1]), ?_⟩
     refine t_l rfl ?_
     refine s_val (x_ix (a := aa) (b := I j) (v := vat aa 2 (Int.toNat j)) rfl rfl (Sl.ix (α := Dem) T57.und T57.size (H.os 0) (by omega) (by omega))) ?_
     refine s_nil ⟨(H.pk [1]), ?_⟩
     refine t_l rfl ?_
     refine t_ost (k := 0) (i := j) (l := l) (l' := l.set (Int.toNat j) (l.getD (Int.toNat (j - 1)) default)) (val := .agg #[I ((l.getD (Int.toNat (j - 1)) default).spring), I ((l.getD (Int.toNat (j - 1)) default).town)]) (L' := [cOwn (α := Dem) 62 aa (l.set (Int.toNat j) (l.getD (Int.toNat (j - 1)) default)), cMem encDm al B_mem (zaa ab ac ae ag ah ai aj)]) H rfl Sz62 (by omega) (by omega) (l.getD (Int.toNat (j - 1)) default) rfl rfl rfl rfl rfl ?_
     intro c9 H
     refine s_nil ⟨(H.pk [1]), ?_⟩
     refine t_l rfl ?_
     refine s_val (x_ix (a := aa) (b := I (j - 1)) (v := vat aa 2 (Int.toNat (j - 1))) rfl rfl (Sl.ix (α := Dem) T57.und T57.size (H.os 0) (by omega) (by omega))) ?_
     refine s_nil ⟨(H.pk [1]), ?_⟩
     refine t_l rfl ?_
     refine t_ost (k := 0) (i := j - 1) (l := l.set (Int.toNat j) (l.getD (Int.toNat (j - 1)) default)) (l' := (l.set (Int.toNat j) (l.getD (Int.toNat (j - 1)) default)).set (Int.toNat (j - 1)) (l.getD (Int.toNat j) default)) (val := .agg #[I ((l.getD (Int.toNat j) default).spring), I ((l.getD (Int.toNat j) default).town)]) (L' := [cOwn (α := Dem) 62 aa ((l.set (Int.toNat j) (l.getD (Int.toNat (j - 1)) default)).set (Int.toNat (j - 1)) (l.getD (Int.toNat j) default)), cMem encDm al B_mem (zaa ab ac ae ag ah ai aj)]) H rfl Sz62 (by omega) (by omega) (l.getD (Int.toNat j) default) rfl rfl rfl rfl rfl ?_
     intro da H
     refine s_nil ⟨(H.pk [1]), ?_⟩
     refine t_nil ?_
     refine W.region rfl ?_
     refine zM (I j) rfl ?_
     refine zR j 1 (j - 1) rfl rfl rfl (by omega) ?_
     refine zA (I (j - 1)) rfl ?_
     refine s_nil ?_
     exact ⟨aw, ax, (l.set (Int.toNat j) (l.getD (Int.toNat (j - 1)) default)).set (Int.toNat (j - 1)) (l.getD (Int.toNat j) default), j - 1, B_mem, _, upds_of _ _ ⟨rfl, rfl, rfl, rfl, rfl, rfl, trivial⟩, M.e_inl hM av, H⟩
    skip
    refine s_val (x_ld (p := vat aa 2 (Int.toNat j)) (v := .agg #[I ((l.getD (Int.toNat j) default).spring), I ((l.getD (Int.toNat j) default).town)]) rfl (ld_ag Ag62 Sz62 (At.mono (Dem_atA (H.os 0) (i := j) (by omega) (by omega)) (H.ol 0)))) ?_
    refine s_nil ⟨(H.pk [1]), ?_⟩
    refine t_l rfl ?_
    refine s_val (x_ld (p := vat aa 2 (Int.toNat (j - 1))) (v := .agg #[I ((l.getD (Int.toNat (j - 1)) default).spring), I ((l.getD (Int.toNat (j - 1)) default).town)]) rfl (ld_ag Ag62 Sz62 (At.mono (Dem_atA (H.os 0) (i := j - 1) (by omega) (by omega)) (H.ol 0)))) ?_
    refine s_nil ⟨(H.pk [1]), ?_⟩
    refine t_l rfl ?_
    refine s_val (x_ix (a := aa) (b := I j) (v := vat aa 2 (Int.toNat j)) rfl rfl (Sl.ix (α := Dem) T57.und T57.size (H.os 0) (by omega) (by omega))) ?_
    refine s_nil ⟨(H.pk [1]), ?_⟩
    refine t_l rfl ?_
    refine t_ost (k := 0) (i := j) (l := l) (l' := l.set (Int.toNat j) (l.getD (Int.toNat (j - 1)) default)) (val := .agg #[I ((l.getD (Int.toNat (j - 1)) default).spring), I ((l.getD (Int.toNat (j - 1)) default).town)]) (L' := [cOwn (α := Dem) 62 aa (l.set (Int.toNat j) (l.getD (Int.toNat (j - 1)) default)), cMem encDm al B_mem (zaa ab ac ae ag ah ai aj)]) H rfl Sz62 (by omega) (by omega) (l.getD (Int.toNat (j - 1)) default) rfl rfl rfl rfl rfl ?_
    intro db H
    refine s_nil ⟨(H.pk [1]), ?_⟩
    refine t_l rfl ?_
    refine s_val (x_ix (a := aa) (b := I (j - 1)) (v := vat aa 2 (Int.toNat (j - 1))) rfl rfl (Sl.ix (α := Dem) T57.und T57.size (H.os 0) (by omega) (by omega))) ?_
    refine s_nil ⟨(H.pk [1]), ?_⟩
    refine t_l rfl ?_
    refine t_ost (k := 0) (i := j - 1) (l := l.set (Int.toNat j) (l.getD (Int.toNat (j - 1)) default)) (l' := (l.set (Int.toNat j) (l.getD (Int.toNat (j - 1)) default)).set (Int.toNat (j - 1)) (l.getD (Int.toNat j) default)) (val := .agg #[I ((l.getD (Int.toNat j) default).spring), I ((l.getD (Int.toNat j) default).town)]) (L' := [cOwn (α := Dem) 62 aa ((l.set (Int.toNat j) (l.getD (Int.toNat (j - 1)) default)).set (Int.toNat (j - 1)) (l.getD (Int.toNat j) default)), cMem encDm al B_mem (zaa ab ac ae ag ah ai aj)]) H rfl Sz62 (by omega) (by omega) (l.getD (Int.toNat j) default) rfl rfl rfl rfl rfl ?_
    intro dc H
    refine s_nil ⟨(H.pk [1]), ?_⟩
    refine t_nil ?_
    refine W.region rfl ?_
    refine zM (I j) rfl ?_
    refine zR j 1 (j - 1) rfl rfl rfl (by omega) ?_
    refine zA (I (j - 1)) rfl ?_
    refine s_nil ?_
    exact ⟨aw, ax, (l.set (Int.toNat j) (l.getD (Int.toNat (j - 1)) default)).set (Int.toNat (j - 1)) (l.getD (Int.toNat j) default), j - 1, B_mem, _, upds_of _ _ ⟨rfl, rfl, rfl, rfl, rfl, rfl, trivial⟩, M.e_inl hM av, H⟩
   skip
   refine s_val (x_ld (p := vat aa 2 (Int.toNat j)) (v := .agg #[I ((l.getD (Int.toNat j) default).spring), I ((l.getD (Int.toNat j) default).town)]) rfl (ld_ag Ag62 Sz62 (At.mono (Dem_atA (H.os 0) (i := j) (by omega) (by omega)) (H.ol 0)))) ?_
   refine s_nil ⟨(H.pk [1]), ?_⟩
   refine t_l rfl ?_
   refine s_val (x_ix (a := aa) (b := I (j - 1)) (v := vat aa 2 (Int.toNat (j - 1))) rfl rfl (Sl.ix (α := Dem) T57.und T57.size (H.os 0) (by omega) (by omega))) ?_
   refine s_nil ⟨(H.pk [1]), ?_⟩
   refine t_l rfl ?_
   refine s_val (x_ld (p := vat aa 2 (Int.toNat (j - 1))) (v := .agg #[I ((l.getD (Int.toNat (j - 1)) default).spring), I ((l.getD (Int.toNat (j - 1)) default).town)]) rfl (ld_ag Ag62 Sz62 (At.mono (Dem_atA (H.os 0) (i := j - 1) (by omega) (by omega)) (H.ol 0)))) ?_
   refine s_nil ⟨(H.pk [1]), ?_⟩
   refine t_l rfl ?_
   refine s_val (x_ix (a := aa) (b := I j) (v := vat aa 2 (Int.toNat j)) rfl rfl (Sl.ix (α := Dem) T57.und T57.size (H.os 0) (by omega) (by omega))) ?_
   refine s_nil ⟨(H.pk [1]), ?_⟩
   refine t_l rfl ?_
   refine t_ost (k := 0) (i := j) (l := l) (l' := l.set (Int.toNat j) (l.getD (Int.toNat (j - 1)) default)) (val := .agg #[I ((l.getD (Int.toNat (j - 1)) default).spring), I ((l.getD (Int.toNat (j - 1)) default).town)]) (L' := [cOwn (α := Dem) 62 aa (l.set (Int.toNat j) (l.getD (Int.toNat (j - 1)) default)), cMem encDm al B_mem (zaa ab ac ae ag ah ai aj)]) H rfl Sz62 (by omega) (by omega) (l.getD (Int.toNat (j - 1)) default) rfl rfl rfl rfl rfl ?_
   intro dd H
   refine s_nil ⟨(H.pk [1]), ?_⟩
   refine t_l rfl ?_
   refine s_val (x_ix (a := aa) (b := I (j - 1)) (v := vat aa 2 (Int.toNat (j - 1))) rfl rfl (Sl.ix (α := Dem) T57.und T57.size (H.os 0) (by omega) (by omega))) ?_
   refine s_nil ⟨(H.pk [1]), ?_⟩
   refine t_l rfl ?_
   refine t_ost (k := 0) (i := j - 1) (l := l.set (Int.toNat j) (l.getD (Int.toNat (j - 1)) default)) (l' := (l.set (Int.toNat j) (l.getD (Int.toNat (j - 1)) default)).set (Int.toNat (j - 1)) (l.getD (Int.toNat j) default)) (val := .agg #[I ((l.getD (Int.toNat j) default).spring), I ((l.getD (Int.toNat j) default).town)]) (L' := [cOwn (α := Dem) 62 aa ((l.set (Int.toNat j) (l.getD (Int.toNat (j - 1)) default)).set (Int.toNat (j - 1)) (l.getD (Int.toNat j) default)), cMem encDm al B_mem (zaa ab ac ae ag ah ai aj)]) H rfl Sz62 (by omega) (by omega) (l.getD (Int.toNat j) default) rfl rfl rfl rfl rfl ?_
   intro de H
   refine s_nil ⟨(H.pk [1]), ?_⟩
   refine t_nil ?_
   refine W.region rfl ?_
   refine zM (I j) rfl ?_
   refine zR j 1 (j - 1) rfl rfl rfl (by omega) ?_
   refine zA (I (j - 1)) rfl ?_
   refine s_nil ?_
   exact ⟨aw, ax, (l.set (Int.toNat j) (l.getD (Int.toNat (j - 1)) default)).set (Int.toNat (j - 1)) (l.getD (Int.toNat j) default), j - 1, B_mem, _, upds_of _ _ ⟨rfl, rfl, rfl, rfl, rfl, rfl, trivial⟩, M.e_inl hM av, H⟩
  replace hM := M.e_f hM aP
  refine W.exit ?_
  have cm := M.e_inr hM av
  subst cm
  replace hM := bt
  try dsimp only at hM
  refine W.region rfl ?_
  refine zM (I i) rfl ?_
  obtain ⟨cn, hM⟩ := M.e_grd hM
  simp only [Bool.and_eq_true, decide_eq_true_eq] at cn
  refine zR i 1 (i + 1) rfl rfl rfl (by omega) ?_
  refine zA (I (i + 1)) rfl ?_
  refine s_nil ?_
  exact ⟨bq, br, l, i + 1, B_mem, _, upds_of _ _ ⟨rfl, rfl, rfl, rfl, rfl, trivial⟩, M.e_inl hM aM, H⟩
 replace hM := M.e_f hM aK
 simp only [qy1, qy2, qy3, qy4, qy5, qy6, ne_eq, qy7] at aK
 refine W.exit ?_
 have co := M.e_inr hM aM
 subst co
 replace hM := b4
 try dsimp only at hM
 have cp := M.e_pure hM
 exact ⟨_, resE_tmp0 rfl, ⟨l4, B_mem2, cp, rfl, H⟩⟩

def zbs (a : Int) (b : Int) (n : Int) : ((List Dem) × Nat) -> M (((List Dem) × Nat) ⊕ (List Dem)) := fun (l, i) =>
  bif decide ((i : Int) < n) then (
  M.grd (decide ((-9223372036854775808 : Int) <= (a + (i : Int))) && decide ((a + (i : Int)) <= (9223372036854775807 : Int))) <|
  M.grd (decide ((-9223372036854775808 : Int) <= (b + (i : Int))) && decide ((b + (i : Int)) <= (9223372036854775807 : Int))) <|
  M.grd (decide ((0 : Int) <= (b + (i : Int))) && decide ((b + (i : Int)) < (l.length : Int))) <|
  M.grd (decide ((0 : Int) <= (a + (i : Int))) && decide ((a + (i : Int)) < (l.length : Int))) <|
  M.grd (decide ((0 : Int) <= (b + (i : Int))) && decide ((b + (i : Int)) < ((l.set (Int.toNat (a + (i : Int))) (l.getD (Int.toNat (b + (i : Int))) default)).length : Int))) <|
  M.grd (decide ((-9223372036854775808 : Int) <= ((i : Int) + 1)) && decide (((i : Int) + 1) <= (9223372036854775807 : Int))) <|
  M.pure (.inl ((l.set (Int.toNat (a + (i : Int))) (l.getD (Int.toNat (b + (i : Int))) default)).set (Int.toNat (b + (i : Int))) (l.getD (Int.toNat (a + (i : Int))) default), i + 1)))
  else (
  M.pure (.inr l))
def zaV (data : List Dem) (a : Int) (b : Int) (n : Int) (aa : List Int) (ab : List Span) (ac : List Int) (ae : List Town) (ag : Int) (ah : Int) (ai : List Flood) (aj : List Int) (ak : List Span) (al : List Int) (am : List Town) (ao : Int) (aq : Int) (au : List Flood) : M (List Dem) :=
  M.bind (M.iter (zbs a b n) (data, 0)) fun l2 =>
  M.pure l2
theorem zcz {R : List Chunk} {aa : Value} {ai : Nat} {aj : Nat} {ak : Nat} {al : Cells} {am : Value} {ao : Cells} {aq : Value} {au : Cells} {av : Value} {aw : Cells} {ax : Value} {ay : Cells} {az : Value} {a8 : Nat} {aA : Nat} {aB : Nat} {aC : Cells} {aD : Value} {aE : Cells} {aF : Value} {aG : Cells} {aH : Value} {aI : Cells} {aJ : Value} {aK : Cells} {aL : Value} {ba : Nat} (data : List Dem) (a : Int) (b : Int) (n : Int) (aM : List Int) (aN : List Span) (aO : List Int) (aP : List Town) (aQ : Int) (aR : Int) (aS : List Flood) (aT : List Int) (aU : List Span) (aV : List Int) (aW : List Town) (aX : Int) (aY : Int) (aZ : List Flood) (bv : Reads R al) (bw : Sl al am aM) (bx : Reads R ao) (bz : Sl ao aq aN) (bA : Reads R au) (bB : Sl au av aO) (bC : Reads R aw) (bD : Sl aw ax aP) (bE : Reads R ay) (bF : Sl ay az aS) (bG : Has R (cBlk ak [am, aq, av, ax, I aQ, I aR, az, .map (some a8)] 86)) (bH : Has R (cBlk aj [.func (.func 54) #[Pq ak] #[]] 106)) (bI : Reads R aC) (bJ : Sl aC aD aT) (bK : Reads R aE) (bL : Sl aE aF aU) (bM : Reads R aG) (bN : Sl aG aH aV) (bO : Reads R aI) (bP : Sl aI aJ aW) (bQ : Reads R aK) (bR : Sl aK aL aZ) (bS : Has R (cBlk aB [aD, aF, aH, aJ, I aX, I aY, aL, .map (some ba)] 86)) (bT : Has R (cBlk aA [Pq aB] 72)) (bU : Has R (cBlk ai [.func (.func 69) #[] #[Pq aj, Pq aA]] 114)) {r : (List Dem)} (hM : (zaV data a b n aM aN aO aP aQ aR aS aT aU aV aW aX aY aZ).Ends r) (w : World) (H : St w w [cOwn (α := Dem) 62 aa data] R) : Ret Try.prog 110 #[aa, I a, I b, I n, .func (.func 71) #[] #[Pq ai]] w fun v w' => ∃ (y0 : List Dem), y0 = r /\ v = .tuple #[] /\ St w w' [cOwn (α := Dem) 62 aa y0] R := by
 refine ret_of_W Try.func110 rfl rfl rfl ?_
 refine W.seq ?_
 refine W.region rfl ?_
 refine zA (I 0) rfl ?_
 refine s_nil ?_
 refine W.block ?_
 obtain ⟨bb, ah, bc⟩ := M.e_bind hM
 obtain ⟨bV, ah⟩ := M.e_iter ah
 refine W.loop (fun m σ W => ∃ (l : List Dem) (i : Nat) (ρ : Env), σ = upds ρ [(0, aa), (1, I a), (2, I b), (3, I n), (10, I (i : Int))] /\ M.iterN (zbs a b n) m (l, i) = some bb /\ St w W [cOwn (α := Dem) 62 aa l] R) ?_ ?_
 ·exact ⟨_, data, 0, _, upds_of _ _ ⟨rfl, rfl, rfl, rfl, rfl, trivial⟩, ah, H⟩
 rintro bW σ bX ⟨l, i, ρ, rfl, a6, H⟩
 obtain ⟨ac, ae, bY, hM, ab⟩ := M.e_iterN a6
 simp only [zbs] at hM
 clear a6
 refine W.seq ?_
 refine W.seq ?_
 refine W.region rfl ?_
 refine zM (I (i : Int)) rfl ?_
 refine zM (I n) rfl ?_
 refine zC (i : Int) n (decide ((i : Int) < n)) rfl rfl rfl ?_
 refine s_nil ?_
 refine W.cond (decide ((i : Int) < n)) rfl (fun ag => ?_) (fun ag => ?_)
 ·replace hM := M.e_t hM ag
  simp only [qy1, qy2, qy3, qy4, qy5, qy6, ne_eq, qy7] at ag
  refine W.skip ?_
  refine W.seq ?_
  refine W.block ?_
  refine W.drawT (fun W => St w W [] R) (.q 0 (.q 1 (.q 2 (.q 3 (.q 4 (.q 5 (.q 6 (.q 7 (.q 8 (.q 9 (.q 10 (.q 11 (.q 14 (.q 15 (.q 16 (.q 17 (.l2 12 (.l2 13 (.l 18 (.l 19 (.l 20 (.l 21 (.l 22 (.l 23 .nil)))))) 18 (.l2 13 (.l 19 (.l 20 (.l 21 (.l 22 (.l 23 .nil))))) 19 (.l 13 (.l 20 (.l 21 (.l 22 (.l 23 .nil))))))) 18 (.l2 12 (.l2 13 (.l 19 (.l 20 (.l 21 (.l 22 (.l 23 .nil))))) 19 (.l 13 (.l 20 (.l 21 (.l 22 (.l 23 .nil)))))) 19 (.l 12 (.l 13 (.l 20 (.l 21 (.l 22 (.l 23 .nil)))))))))))))))))))))))) mixed (by decide +kernel) rfl ?_
  intro bZ a7
  replace H := H.ext a7
  clear a7
  refine ⟨(H.pk []), ?_⟩
  refine t_q rfl (fun w' H => x_mv (v := aa) rfl) ?_
  refine t_q rfl (fun w' H => x_mv (v := I a) rfl) ?_
  refine t_q rfl (fun w' H => x_mv (v := I (i : Int)) rfl) ?_
  obtain ⟨bf, hM⟩ := M.e_grd hM
  simp only [Bool.and_eq_true, decide_eq_true_eq] at bf
  refine t_q rfl (fun w' H => x_ari (a := a) (b := (i : Int)) (r := a + (i : Int)) rfl rfl rfl (by omega)) ?_
  refine t_q rfl (fun w' H => x_mv (v := aa) rfl) ?_
  refine t_q rfl (fun w' H => x_mv (v := I b) rfl) ?_
  refine t_q rfl (fun w' H => x_mv (v := I (i : Int)) rfl) ?_
  obtain ⟨bg, hM⟩ := M.e_grd hM
  simp only [Bool.and_eq_true, decide_eq_true_eq] at bg
  refine t_q rfl (fun w' H => x_ari (a := b) (b := (i : Int)) (r := b + (i : Int)) rfl rfl rfl (by omega)) ?_
  refine t_q rfl (fun w' H => x_mv (v := aa) rfl) ?_
  refine t_q rfl (fun w' H => x_mv (v := I b) rfl) ?_
  refine t_q rfl (fun w' H => x_mv (v := I (i : Int)) rfl) ?_
  refine t_q rfl (fun w' H => x_ari (a := b) (b := (i : Int)) (r := b + (i : Int)) rfl rfl rfl (by omega)) ?_
  refine t_q rfl (fun w' H => x_mv (v := aa) rfl) ?_
  refine t_q rfl (fun w' H => x_mv (v := I a) rfl) ?_
  refine t_q rfl (fun w' H => x_mv (v := I (i : Int)) rfl) ?_
  refine t_q rfl (fun w' H => x_ari (a := a) (b := (i : Int)) (r := a + (i : Int)) rfl rfl rfl (by omega)) ?_
  obtain ⟨bh, hM⟩ := M.e_grd hM
  simp only [Bool.and_eq_true, decide_eq_true_eq] at bh
  obtain ⟨bi, hM⟩ := M.e_grd hM
  simp only [Bool.and_eq_true, decide_eq_true_eq] at bi
  obtain ⟨bj, hM⟩ := M.e_grd hM
  simp only [Bool.and_eq_true, decide_eq_true_eq] at bj
  refine t_l2 rfl rfl ?_ ?_
  ·skip
   refine s_val (x_ix (a := aa) (b := I (b + (i : Int))) (v := vat aa 2 (Int.toNat (b + (i : Int)))) rfl rfl (Sl.ix (α := Dem) T57.und T57.size (H.os 0) (by omega) (by omega))) ?_
   have b4 := Sl.cells (H.os 0)
   have b5 := Sl.oc (H.os 0)
   refine s_nil ⟨(H.pk []), ?_⟩
   refine t_l2 rfl rfl ?_ ?_
   ·skip
    refine s_val (x_ld (p := vat aa 2 (Int.toNat (b + (i : Int)))) (v := .agg #[I ((l.getD (Int.toNat (b + (i : Int))) default).spring), I ((l.getD (Int.toNat (b + (i : Int))) default).town)]) rfl (ld_ag Ag62 Sz62 (At.mono (Dem_atA (H.os 0) (i := b + (i : Int)) (by omega) (by omega)) (H.ol 0)))) ?_
    refine s_nil ⟨(H.pk []), ?_⟩
    refine t_l rfl ?_
    refine s_val (x_ix (a := aa) (b := I (a + (i : Int))) (v := vat aa 2 (Int.toNat (a + (i : Int)))) rfl rfl (Sl.ix (α := Dem) T57.und T57.size (H.os 0) (by omega) (by omega))) ?_
    refine s_nil ⟨(H.pk []), ?_⟩
    refine t_l rfl ?_
    refine s_val (x_ld (p := vat aa 2 (Int.toNat (a + (i : Int)))) (v := .agg #[I ((l.getD (Int.toNat (a + (i : Int))) default).spring), I ((l.getD (Int.toNat (a + (i : Int))) default).town)]) rfl (ld_ag Ag62 Sz62 (At.mono (Dem_atA (H.os 0) (i := a + (i : Int)) (by omega) (by omega)) (H.ol 0)))) ?_
    refine s_nil ⟨(H.pk []), ?_⟩
    refine t_l rfl ?_
    refine s_val (x_ix (a := aa) (b := I (a + (i : Int))) (v := vat aa 2 (Int.toNat (a + (i : Int)))) rfl rfl (Sl.ix (α := Dem) T57.und T57.size (H.os 0) (by omega) (by omega))) ?_
    refine s_nil ⟨(H.pk []), ?_⟩
    refine t_l rfl ?_
    refine t_ost (k := 0) (i := a + (i : Int)) (l := l) (l' := l.set (Int.toNat (a + (i : Int))) (l.getD (Int.toNat (b + (i : Int))) default)) (val := .agg #[I ((l.getD (Int.toNat (b + (i : Int))) default).spring), I ((l.getD (Int.toNat (b + (i : Int))) default).town)]) (L' := [cOwn (α := Dem) 62 aa (l.set (Int.toNat (a + (i : Int))) (l.getD (Int.toNat (b + (i : Int))) default))]) H rfl Sz62 (by omega) (by omega) (l.getD (Int.toNat (b + (i : Int))) default) rfl rfl rfl rfl rfl ?_
    intro b6 H
    refine s_nil ⟨(H.pk []), ?_⟩
    refine t_l rfl ?_
    refine s_val (x_ix (a := aa) (b := I (b + (i : Int))) (v := vat aa 2 (Int.toNat (b + (i : Int)))) rfl rfl (Sl.ix (α := Dem) T57.und T57.size (H.os 0) (by omega) (by omega))) ?_
    refine s_nil ⟨(H.pk []), ?_⟩
    refine t_l rfl ?_
    refine t_ost (k := 0) (i := b + (i : Int)) (l := l.set (Int.toNat (a + (i : Int))) (l.getD (Int.toNat (b + (i : Int))) default)) (l' := (l.set (Int.toNat (a + (i : Int))) (l.getD (Int.toNat (b + (i : Int))) default)).set (Int.toNat (b + (i : Int))) (l.getD (Int.toNat (a + (i : Int))) default)) (val := .agg #[I ((l.getD (Int.toNat (a + (i : Int))) default).spring), I ((l.getD (Int.toNat (a + (i : Int))) default).town)]) (L' := [cOwn (α := Dem) 62 aa ((l.set (Int.toNat (a + (i : Int))) (l.getD (Int.toNat (b + (i : Int))) default)).set (Int.toNat (b + (i : Int))) (l.getD (Int.toNat (a + (i : Int))) default))]) H rfl Sz62 (by omega) (by omega) (l.getD (Int.toNat (a + (i : Int))) default) rfl rfl rfl rfl rfl ?_
    intro b7 H
    refine s_nil ⟨(H.pk []), ?_⟩
    refine t_nil ?_
    refine W.region rfl ?_
    refine zM (I (i : Int)) rfl ?_
    obtain ⟨bm, hM⟩ := M.e_grd hM
    simp only [Bool.and_eq_true, decide_eq_true_eq] at bm
    refine zR (i : Int) 1 ((i : Int) + 1) rfl rfl rfl (by omega) ?_
    refine zA (I ((i : Int) + 1)) rfl ?_
    refine s_nil ?_
    exact ⟨ac, ae, (l.set (Int.toNat (a + (i : Int))) (l.getD (Int.toNat (b + (i : Int))) default)).set (Int.toNat (b + (i : Int))) (l.getD (Int.toNat (a + (i : Int))) default), i + 1, _, upds_of _ _ ⟨rfl, rfl, rfl, rfl, rfl, trivial⟩, M.e_inl hM ab, H⟩
   skip
   refine s_val (x_ix (a := aa) (b := I (a + (i : Int))) (v := vat aa 2 (Int.toNat (a + (i : Int)))) rfl rfl (Sl.ix (α := Dem) T57.und T57.size (H.os 0) (by omega) (by omega))) ?_
   refine s_nil ⟨(H.pk []), ?_⟩
   refine t_l2 rfl rfl ?_ ?_
   ·skip
    refine s_val (x_ld (p := vat aa 2 (Int.toNat (b + (i : Int)))) (v := .agg #[I ((l.getD (Int.toNat (b + (i : Int))) default).spring), I ((l.getD (Int.toNat (b + (i : Int))) default).town)]) rfl (ld_ag Ag62 Sz62 (At.mono (Dem_atA (H.os 0) (i := b + (i : Int)) (by omega) (by omega)) (H.ol 0)))) ?_
    refine s_nil ⟨(H.pk []), ?_⟩
    refine t_l rfl ?_
    refine s_val (x_ld (p := vat aa 2 (Int.toNat (a + (i : Int)))) (v := .agg #[I ((l.getD (Int.toNat (a + (i : Int))) default).spring), I ((l.getD (Int.toNat (a + (i : Int))) default).town)]) rfl (ld_ag Ag62 Sz62 (At.mono (Dem_atA (H.os 0) (i := a + (i : Int)) (by omega) (by omega)) (H.ol 0)))) ?_
    refine s_nil ⟨(H.pk []), ?_⟩
    refine t_l rfl ?_
    refine s_val (x_ix (a := aa) (b := I (a + (i : Int))) (v := vat aa 2 (Int.toNat (a + (i : Int)))) rfl rfl (Sl.ix (α := Dem) T57.und T57.size (H.os 0) (by omega) (by omega))) ?_
    refine s_nil ⟨(H.pk []), ?_⟩
    refine t_l rfl ?_
    refine t_ost (k := 0) (i := a + (i : Int)) (l := l) (l' := l.set (Int.toNat (a + (i : Int))) (l.getD (Int.toNat (b + (i : Int))) default)) (val := .agg #[I ((l.getD (Int.toNat (b + (i : Int))) default).spring), I ((l.getD (Int.toNat (b + (i : Int))) default).town)]) (L' := [cOwn (α := Dem) 62 aa (l.set (Int.toNat (a + (i : Int))) (l.getD (Int.toNat (b + (i : Int))) default))]) H rfl Sz62 (by omega) (by omega) (l.getD (Int.toNat (b + (i : Int))) default) rfl rfl rfl rfl rfl ?_
    intro b8 H
    refine s_nil ⟨(H.pk []), ?_⟩
    refine t_l rfl ?_
    refine s_val (x_ix (a := aa) (b := I (b + (i : Int))) (v := vat aa 2 (Int.toNat (b + (i : Int)))) rfl rfl (Sl.ix (α := Dem) T57.und T57.size (H.os 0) (by omega) (by omega))) ?_
    refine s_nil ⟨(H.pk []), ?_⟩
    refine t_l rfl ?_
    refine t_ost (k := 0) (i := b + (i : Int)) (l := l.set (Int.toNat (a + (i : Int))) (l.getD (Int.toNat (b + (i : Int))) default)) (l' := (l.set (Int.toNat (a + (i : Int))) (l.getD (Int.toNat (b + (i : Int))) default)).set (Int.toNat (b + (i : Int))) (l.getD (Int.toNat (a + (i : Int))) default)) (val := .agg #[I ((l.getD (Int.toNat (a + (i : Int))) default).spring), I ((l.getD (Int.toNat (a + (i : Int))) default).town)]) (L' := [cOwn (α := Dem) 62 aa ((l.set (Int.toNat (a + (i : Int))) (l.getD (Int.toNat (b + (i : Int))) default)).set (Int.toNat (b + (i : Int))) (l.getD (Int.toNat (a + (i : Int))) default))]) H rfl Sz62 (by omega) (by omega) (l.getD (Int.toNat (a + (i : Int))) default) rfl rfl rfl rfl rfl ?_
    intro b9 H
    refine s_nil ⟨(H.pk []), ?_⟩
    refine t_nil ?_
    refine W.region rfl ?_
    refine zM (I (i : Int)) rfl ?_
    obtain ⟨bn, hM⟩ := M.e_grd hM
    simp only [Bool.and_eq_true, decide_eq_true_eq] at bn
    refine zR (i : Int) 1 ((i : Int) + 1) rfl rfl rfl (by omega) ?_
    refine zA (I ((i : Int) + 1)) rfl ?_
    refine s_nil ?_
    exact ⟨ac, ae, (l.set (Int.toNat (a + (i : Int))) (l.getD (Int.toNat (b + (i : Int))) default)).set (Int.toNat (b + (i : Int))) (l.getD (Int.toNat (a + (i : Int))) default), i + 1, _, upds_of _ _ ⟨rfl, rfl, rfl, rfl, rfl, trivial⟩, M.e_inl hM ab, H⟩
   skip
   refine s_val (x_ld (p := vat aa 2 (Int.toNat (a + (i : Int)))) (v := .agg #[I ((l.getD (Int.toNat (a + (i : Int))) default).spring), I ((l.getD (Int.toNat (a + (i : Int))) default).town)]) rfl (ld_ag Ag62 Sz62 (At.mono (Dem_atA (H.os 0) (i := a + (i : Int)) (by omega) (by omega)) (H.ol 0)))) ?_
   refine s_nil ⟨(H.pk []), ?_⟩
   refine t_l rfl ?_
   refine s_val (x_ld (p := vat aa 2 (Int.toNat (b + (i : Int)))) (v := .agg #[I ((l.getD (Int.toNat (b + (i : Int))) default).spring), I ((l.getD (Int.toNat (b + (i : Int))) default).town)]) rfl (ld_ag Ag62 Sz62 (At.mono (Dem_atA (H.os 0) (i := b + (i : Int)) (by omega) (by omega)) (H.ol 0)))) ?_
   refine s_nil ⟨(H.pk []), ?_⟩
   refine t_l rfl ?_
   refine s_val (x_ix (a := aa) (b := I (a + (i : Int))) (v := vat aa 2 (Int.toNat (a + (i : Int)))) rfl rfl (Sl.ix (α := Dem) T57.und T57.size (H.os 0) (by omega) (by omega))) ?_
   refine s_nil ⟨(H.pk []), ?_⟩
   refine t_l rfl ?_
   refine t_ost (k := 0) (i := a + (i : Int)) (l := l) (l' := l.set (Int.toNat (a + (i : Int))) (l.getD (Int.toNat (b + (i : Int))) default)) (val := .agg #[I ((l.getD (Int.toNat (b + (i : Int))) default).spring), I ((l.getD (Int.toNat (b + (i : Int))) default).town)]) (L' := [cOwn (α := Dem) 62 aa (l.set (Int.toNat (a + (i : Int))) (l.getD (Int.toNat (b + (i : Int))) default))]) H rfl Sz62 (by omega) (by omega) (l.getD (Int.toNat (b + (i : Int))) default) rfl rfl rfl rfl rfl ?_
   intro ca H
   refine s_nil ⟨(H.pk []), ?_⟩
   refine t_l rfl ?_
   refine s_val (x_ix (a := aa) (b := I (b + (i : Int))) (v := vat aa 2 (Int.toNat (b + (i : Int)))) rfl rfl (Sl.ix (α := Dem) T57.und T57.size (H.os 0) (by omega) (by omega))) ?_
   refine s_nil ⟨(H.pk []), ?_⟩
   refine t_l rfl ?_
   refine t_ost (k := 0) (i := b + (i : Int)) (l := l.set (Int.toNat (a + (i : Int))) (l.getD (Int.toNat (b + (i : Int))) default)) (l' := (l.set (Int.toNat (a + (i : Int))) (l.getD (Int.toNat (b + (i : Int))) default)).set (Int.toNat (b + (i : Int))) (l.getD (Int.toNat (a + (i : Int))) default)) (val := .agg #[I ((l.getD (Int.toNat (a + (i : Int))) default).spring), I ((l.getD (Int.toNat (a + (i : Int))) default).town)]) (L' := [cOwn (α := Dem) 62 aa ((l.set (Int.toNat (a + (i : Int))) (l.getD (Int.toNat (b + (i : Int))) default)).set (Int.toNat (b + (i : Int))) (l.getD (Int.toNat (a + (i : Int))) default))]) H rfl Sz62 (by omega) (by omega) (l.getD (Int.toNat (a + (i : Int))) default) rfl rfl rfl rfl rfl ?_
   intro cb H
   refine s_nil ⟨(H.pk []), ?_⟩
   refine t_nil ?_
   refine W.region rfl ?_
   refine zM (I (i : Int)) rfl ?_
   obtain ⟨bo, hM⟩ := M.e_grd hM
   simp only [Bool.and_eq_true, decide_eq_true_eq] at bo
   refine zR (i : Int) 1 ((i : Int) + 1) rfl rfl rfl (by omega) ?_
   refine zA (I ((i : Int) + 1)) rfl ?_
   refine s_nil ?_
   exact ⟨ac, ae, (l.set (Int.toNat (a + (i : Int))) (l.getD (Int.toNat (b + (i : Int))) default)).set (Int.toNat (b + (i : Int))) (l.getD (Int.toNat (a + (i : Int))) default), i + 1, _, upds_of _ _ ⟨rfl, rfl, rfl, rfl, rfl, trivial⟩, M.e_inl hM ab, H⟩
  skip
  refine s_val (x_ix (a := aa) (b := I (a + (i : Int))) (v := vat aa 2 (Int.toNat (a + (i : Int)))) rfl rfl (Sl.ix (α := Dem) T57.und T57.size (H.os 0) (by omega) (by omega))) ?_
  have cc := Sl.cells (H.os 0)
  have cd := Sl.oc (H.os 0)
  refine s_nil ⟨(H.pk []), ?_⟩
  refine t_l2 rfl rfl ?_ ?_
  ·skip
   refine s_val (x_ix (a := aa) (b := I (b + (i : Int))) (v := vat aa 2 (Int.toNat (b + (i : Int)))) rfl rfl (Sl.ix (α := Dem) T57.und T57.size (H.os 0) (by omega) (by omega))) ?_
   refine s_nil ⟨(H.pk []), ?_⟩
   refine t_l2 rfl rfl ?_ ?_
   ·skip
    refine s_val (x_ld (p := vat aa 2 (Int.toNat (b + (i : Int)))) (v := .agg #[I ((l.getD (Int.toNat (b + (i : Int))) default).spring), I ((l.getD (Int.toNat (b + (i : Int))) default).town)]) rfl (ld_ag Ag62 Sz62 (At.mono (Dem_atA (H.os 0) (i := b + (i : Int)) (by omega) (by omega)) (H.ol 0)))) ?_
    refine s_nil ⟨(H.pk []), ?_⟩
    refine t_l rfl ?_
    refine s_val (x_ld (p := vat aa 2 (Int.toNat (a + (i : Int)))) (v := .agg #[I ((l.getD (Int.toNat (a + (i : Int))) default).spring), I ((l.getD (Int.toNat (a + (i : Int))) default).town)]) rfl (ld_ag Ag62 Sz62 (At.mono (Dem_atA (H.os 0) (i := a + (i : Int)) (by omega) (by omega)) (H.ol 0)))) ?_
    refine s_nil ⟨(H.pk []), ?_⟩
    refine t_l rfl ?_
    refine s_val (x_ix (a := aa) (b := I (a + (i : Int))) (v := vat aa 2 (Int.toNat (a + (i : Int)))) rfl rfl (Sl.ix (α := Dem) T57.und T57.size (H.os 0) (by omega) (by omega))) ?_
    refine s_nil ⟨(H.pk []), ?_⟩
    refine t_l rfl ?_
    refine t_ost (k := 0) (i := a + (i : Int)) (l := l) (l' := l.set (Int.toNat (a + (i : Int))) (l.getD (Int.toNat (b + (i : Int))) default)) (val := .agg #[I ((l.getD (Int.toNat (b + (i : Int))) default).spring), I ((l.getD (Int.toNat (b + (i : Int))) default).town)]) (L' := [cOwn (α := Dem) 62 aa (l.set (Int.toNat (a + (i : Int))) (l.getD (Int.toNat (b + (i : Int))) default))]) H rfl Sz62 (by omega) (by omega) (l.getD (Int.toNat (b + (i : Int))) default) rfl rfl rfl rfl rfl ?_
    intro ce H
    refine s_nil ⟨(H.pk []), ?_⟩
    refine t_l rfl ?_
    refine s_val (x_ix (a := aa) (b := I (b + (i : Int))) (v := vat aa 2 (Int.toNat (b + (i : Int)))) rfl rfl (Sl.ix (α := Dem) T57.und T57.size (H.os 0) (by omega) (by omega))) ?_
    refine s_nil ⟨(H.pk []), ?_⟩
    refine t_l rfl ?_
    refine t_ost (k := 0) (i := b + (i : Int)) (l := l.set (Int.toNat (a + (i : Int))) (l.getD (Int.toNat (b + (i : Int))) default)) (l' := (l.set (Int.toNat (a + (i : Int))) (l.getD (Int.toNat (b + (i : Int))) default)).set (Int.toNat (b + (i : Int))) (l.getD (Int.toNat (a + (i : Int))) default)) (val := .agg #[I ((l.getD (Int.toNat (a + (i : Int))) default).spring), I ((l.getD (Int.toNat (a + (i : Int))) default).town)]) (L' := [cOwn (α := Dem) 62 aa ((l.set (Int.toNat (a + (i : Int))) (l.getD (Int.toNat (b + (i : Int))) default)).set (Int.toNat (b + (i : Int))) (l.getD (Int.toNat (a + (i : Int))) default))]) H rfl Sz62 (by omega) (by omega) (l.getD (Int.toNat (a + (i : Int))) default) rfl rfl rfl rfl rfl ?_
    intro cf H
    refine s_nil ⟨(H.pk []), ?_⟩
    refine t_nil ?_
    refine W.region rfl ?_
    refine zM (I (i : Int)) rfl ?_
    obtain ⟨bp, hM⟩ := M.e_grd hM
    simp only [Bool.and_eq_true, decide_eq_true_eq] at bp
    refine zR (i : Int) 1 ((i : Int) + 1) rfl rfl rfl (by omega) ?_
    refine zA (I ((i : Int) + 1)) rfl ?_
    refine s_nil ?_
    exact ⟨ac, ae, (l.set (Int.toNat (a + (i : Int))) (l.getD (Int.toNat (b + (i : Int))) default)).set (Int.toNat (b + (i : Int))) (l.getD (Int.toNat (a + (i : Int))) default), i + 1, _, upds_of _ _ ⟨rfl, rfl, rfl, rfl, rfl, trivial⟩, M.e_inl hM ab, H⟩
   skip
   refine s_val (x_ld (p := vat aa 2 (Int.toNat (a + (i : Int)))) (v := .agg #[I ((l.getD (Int.toNat (a + (i : Int))) default).spring), I ((l.getD (Int.toNat (a + (i : Int))) default).town)]) rfl (ld_ag Ag62 Sz62 (At.mono (Dem_atA (H.os 0) (i := a + (i : Int)) (by omega) (by omega)) (H.ol 0)))) ?_
   refine s_nil ⟨(H.pk []), ?_⟩
   refine t_l rfl ?_
   refine s_val (x_ld (p := vat aa 2 (Int.toNat (b + (i : Int)))) (v := .agg #[I ((l.getD (Int.toNat (b + (i : Int))) default).spring), I ((l.getD (Int.toNat (b + (i : Int))) default).town)]) rfl (ld_ag Ag62 Sz62 (At.mono (Dem_atA (H.os 0) (i := b + (i : Int)) (by omega) (by omega)) (H.ol 0)))) ?_
   refine s_nil ⟨(H.pk []), ?_⟩
   refine t_l rfl ?_
   refine s_val (x_ix (a := aa) (b := I (a + (i : Int))) (v := vat aa 2 (Int.toNat (a + (i : Int)))) rfl rfl (Sl.ix (α := Dem) T57.und T57.size (H.os 0) (by omega) (by omega))) ?_
   refine s_nil ⟨(H.pk []), ?_⟩
   refine t_l rfl ?_
   refine t_ost (k := 0) (i := a + (i : Int)) (l := l) (l' := l.set (Int.toNat (a + (i : Int))) (l.getD (Int.toNat (b + (i : Int))) default)) (val := .agg #[I ((l.getD (Int.toNat (b + (i : Int))) default).spring), I ((l.getD (Int.toNat (b + (i : Int))) default).town)]) (L' := [cOwn (α := Dem) 62 aa (l.set (Int.toNat (a + (i : Int))) (l.getD (Int.toNat (b + (i : Int))) default))]) H rfl Sz62 (by omega) (by omega) (l.getD (Int.toNat (b + (i : Int))) default) rfl rfl rfl rfl rfl ?_
   intro cg H
   refine s_nil ⟨(H.pk []), ?_⟩
   refine t_l rfl ?_
   refine s_val (x_ix (a := aa) (b := I (b + (i : Int))) (v := vat aa 2 (Int.toNat (b + (i : Int)))) rfl rfl (Sl.ix (α := Dem) T57.und T57.size (H.os 0) (by omega) (by omega))) ?_
   refine s_nil ⟨(H.pk []), ?_⟩
   refine t_l rfl ?_
   refine t_ost (k := 0) (i := b + (i : Int)) (l := l.set (Int.toNat (a + (i : Int))) (l.getD (Int.toNat (b + (i : Int))) default)) (l' := (l.set (Int.toNat (a + (i : Int))) (l.getD (Int.toNat (b + (i : Int))) default)).set (Int.toNat (b + (i : Int))) (l.getD (Int.toNat (a + (i : Int))) default)) (val := .agg #[I ((l.getD (Int.toNat (a + (i : Int))) default).spring), I ((l.getD (Int.toNat (a + (i : Int))) default).town)]) (L' := [cOwn (α := Dem) 62 aa ((l.set (Int.toNat (a + (i : Int))) (l.getD (Int.toNat (b + (i : Int))) default)).set (Int.toNat (b + (i : Int))) (l.getD (Int.toNat (a + (i : Int))) default))]) H rfl Sz62 (by omega) (by omega) (l.getD (Int.toNat (a + (i : Int))) default) rfl rfl rfl rfl rfl ?_
   intro ch H
   refine s_nil ⟨(H.pk []), ?_⟩
   refine t_nil ?_
   refine W.region rfl ?_
   refine zM (I (i : Int)) rfl ?_
   obtain ⟨bq, hM⟩ := M.e_grd hM
   simp only [Bool.and_eq_true, decide_eq_true_eq] at bq
   refine zR (i : Int) 1 ((i : Int) + 1) rfl rfl rfl (by omega) ?_
   refine zA (I ((i : Int) + 1)) rfl ?_
   refine s_nil ?_
   exact ⟨ac, ae, (l.set (Int.toNat (a + (i : Int))) (l.getD (Int.toNat (b + (i : Int))) default)).set (Int.toNat (b + (i : Int))) (l.getD (Int.toNat (a + (i : Int))) default), i + 1, _, upds_of _ _ ⟨rfl, rfl, rfl, rfl, rfl, trivial⟩, M.e_inl hM ab, H⟩
  skip
  refine s_val (x_ld (p := vat aa 2 (Int.toNat (a + (i : Int)))) (v := .agg #[I ((l.getD (Int.toNat (a + (i : Int))) default).spring), I ((l.getD (Int.toNat (a + (i : Int))) default).town)]) rfl (ld_ag Ag62 Sz62 (At.mono (Dem_atA (H.os 0) (i := a + (i : Int)) (by omega) (by omega)) (H.ol 0)))) ?_
  refine s_nil ⟨(H.pk []), ?_⟩
  refine t_l rfl ?_
  refine s_val (x_ix (a := aa) (b := I (b + (i : Int))) (v := vat aa 2 (Int.toNat (b + (i : Int)))) rfl rfl (Sl.ix (α := Dem) T57.und T57.size (H.os 0) (by omega) (by omega))) ?_
  refine s_nil ⟨(H.pk []), ?_⟩
  refine t_l rfl ?_
  refine s_val (x_ld (p := vat aa 2 (Int.toNat (b + (i : Int)))) (v := .agg #[I ((l.getD (Int.toNat (b + (i : Int))) default).spring), I ((l.getD (Int.toNat (b + (i : Int))) default).town)]) rfl (ld_ag Ag62 Sz62 (At.mono (Dem_atA (H.os 0) (i := b + (i : Int)) (by omega) (by omega)) (H.ol 0)))) ?_
  refine s_nil ⟨(H.pk []), ?_⟩
  refine t_l rfl ?_
  refine s_val (x_ix (a := aa) (b := I (a + (i : Int))) (v := vat aa 2 (Int.toNat (a + (i : Int)))) rfl rfl (Sl.ix (α := Dem) T57.und T57.size (H.os 0) (by omega) (by omega))) ?_
  refine s_nil ⟨(H.pk []), ?_⟩
  refine t_l rfl ?_
  refine t_ost (k := 0) (i := a + (i : Int)) (l := l) (l' := l.set (Int.toNat (a + (i : Int))) (l.getD (Int.toNat (b + (i : Int))) default)) (val := .agg #[I ((l.getD (Int.toNat (b + (i : Int))) default).spring), I ((l.getD (Int.toNat (b + (i : Int))) default).town)]) (L' := [cOwn (α := Dem) 62 aa (l.set (Int.toNat (a + (i : Int))) (l.getD (Int.toNat (b + (i : Int))) default))]) H rfl Sz62 (by omega) (by omega) (l.getD (Int.toNat (b + (i : Int))) default) rfl rfl rfl rfl rfl ?_
  intro ck H
  refine s_nil ⟨(H.pk []), ?_⟩
  refine t_l rfl ?_
  refine s_val (x_ix (a := aa) (b := I (b + (i : Int))) (v := vat aa 2 (Int.toNat (b + (i : Int)))) rfl rfl (Sl.ix (α := Dem) T57.und T57.size (H.os 0) (by omega) (by omega))) ?_
  refine s_nil ⟨(H.pk []), ?_⟩
  refine t_l rfl ?_
  refine t_ost (k := 0) (i := b + (i : Int)) (l := l.set (Int.toNat (a + (i : Int))) (l.getD (Int.toNat (b + (i : Int))) default)) (l' := (l.set (Int.toNat (a + (i : Int))) (l.getD (Int.toNat (b + (i : Int))) default)).set (Int.toNat (b + (i : Int))) (l.getD (Int.toNat (a + (i : Int))) default)) (val := .agg #[I ((l.getD (Int.toNat (a + (i : Int))) default).spring), I ((l.getD (Int.toNat (a + (i : Int))) default).town)]) (L' := [cOwn (α := Dem) 62 aa ((l.set (Int.toNat (a + (i : Int))) (l.getD (Int.toNat (b + (i : Int))) default)).set (Int.toNat (b + (i : Int))) (l.getD (Int.toNat (a + (i : Int))) default))]) H rfl Sz62 (by omega) (by omega) (l.getD (Int.toNat (a + (i : Int))) default) rfl rfl rfl rfl rfl ?_
  intro cm H
  refine s_nil ⟨(H.pk []), ?_⟩
  refine t_nil ?_
  refine W.region rfl ?_
  refine zM (I (i : Int)) rfl ?_
  obtain ⟨br, hM⟩ := M.e_grd hM
  simp only [Bool.and_eq_true, decide_eq_true_eq] at br
  refine zR (i : Int) 1 ((i : Int) + 1) rfl rfl rfl (by omega) ?_
  refine zA (I ((i : Int) + 1)) rfl ?_
  refine s_nil ?_
  exact ⟨ac, ae, (l.set (Int.toNat (a + (i : Int))) (l.getD (Int.toNat (b + (i : Int))) default)).set (Int.toNat (b + (i : Int))) (l.getD (Int.toNat (a + (i : Int))) default), i + 1, _, upds_of _ _ ⟨rfl, rfl, rfl, rfl, rfl, trivial⟩, M.e_inl hM ab, H⟩
 replace hM := M.e_f hM ag
 simp only [qy1, qy2, qy3, qy4, qy5, qy6, ne_eq, qy7] at ag
 refine W.exit ?_
 have bt := M.e_inr hM ab
 subst bt
 replace hM := bc
 try dsimp only at hM
 have bu := M.e_pure hM
 exact ⟨_, resE_tmp0 rfl, ⟨l, bu, rfl, H⟩⟩

def zcc (m_ : Int) (aa : List Int) (ab : List Span) (ac : List Int) (ae : List Town) (ag : Int) (ah : Int) (ai : List Flood) (aj : List Int) (ak : List Span) (al : List Int) (am : List Town) (ao : Int) (aq : Int) (au : List Flood) : ((List Dem) × Int × Int) -> M (((List Dem) × Int × Int) ⊕ ((List Dem) × Int × (List Dem))) := fun (l, i, j) =>
  bif i != j then (
  bif decide (j < i) then (
  M.grd (decide ((-9223372036854775808 : Int) <= (m_ - i)) && decide ((m_ - i) <= (9223372036854775807 : Int))) <|
  M.bind (zaV l (m_ - i) m_ j aa ab ac ae ag ah ai aj ak al am ao aq au) fun l_data =>
  M.grd (decide ((-9223372036854775808 : Int) <= (i - j)) && decide ((i - j) <= (9223372036854775807 : Int))) <|
  M.pure (.inl (l_data, i - j, j)))
  else (
  M.grd (decide ((-9223372036854775808 : Int) <= (m_ - i)) && decide ((m_ - i) <= (9223372036854775807 : Int))) <|
  M.grd (decide ((-9223372036854775808 : Int) <= (m_ + j)) && decide ((m_ + j) <= (9223372036854775807 : Int))) <|
  M.grd (decide ((-9223372036854775808 : Int) <= ((m_ + j) - i)) && decide (((m_ + j) - i) <= (9223372036854775807 : Int))) <|
  M.bind (zaV l (m_ - i) ((m_ + j) - i) i aa ab ac ae ag ah ai aj ak al am ao aq au) fun l_data2 =>
  M.grd (decide ((-9223372036854775808 : Int) <= (j - i)) && decide ((j - i) <= (9223372036854775807 : Int))) <|
  M.pure (.inl (l_data2, i, j - i))))
  else (
  M.pure (.inr (l, i, l)))
def zb1 (data : List Dem) (a : Int) (m_ : Int) (b : Int) (aa : List Int) (ab : List Span) (ac : List Int) (ae : List Town) (ag : Int) (ah : Int) (ai : List Flood) (aj : List Int) (ak : List Span) (al : List Int) (am : List Town) (ao : Int) (aq : Int) (au : List Flood) : M (List Dem) :=
  M.grd (decide ((-9223372036854775808 : Int) <= (m_ - a)) && decide ((m_ - a) <= (9223372036854775807 : Int))) <|
  M.grd (decide ((-9223372036854775808 : Int) <= (b - m_)) && decide ((b - m_) <= (9223372036854775807 : Int))) <|
  M.bind (M.iter (zcc m_ aa ab ac ae ag ah ai aj ak al am ao aq au) (data, m_ - a, b - m_)) fun (l2, i2, l3) =>
  M.grd (decide ((-9223372036854775808 : Int) <= (m_ - i2)) && decide ((m_ - i2) <= (9223372036854775807 : Int))) <|
  M.bind (zaV l3 (m_ - i2) m_ i2 aa ab ac ae ag ah ai aj ak al am ao aq au) fun l_data3 =>
  M.pure l_data3
theorem zdw {R : List Chunk} {aa : Value} {ab : Nat} {a7 : Nat} {a8 : Nat} {ba : Cells} {bb : Value} {bc : Cells} {bf : Value} {bg : Cells} {bh : Value} {bi : Cells} {bj : Value} {bm : Cells} {bn : Value} {bF : Nat} {bo : Nat} {bp : Nat} {bq : Cells} {br : Value} {bt : Cells} {bu : Value} {bv : Cells} {bw : Value} {bx : Cells} {bz : Value} {bA : Cells} {bB : Value} {bG : Nat} (data : List Dem) (a : Int) (m_ : Int) (b : Int) (ae : List Int) (ag : List Span) (ah : List Int) (ai : List Town) (aj : Int) (ak : Int) (al : List Flood) (am : List Int) (ao : List Span) (aq : List Int) (au : List Town) (av : Int) (aw : Int) (ax : List Flood) (aA : Reads R ba) (aB : Sl ba bb ae) (aC : Reads R bc) (aD : Sl bc bf ag) (aE : Reads R bg) (aF : Sl bg bh ah) (aG : Reads R bi) (aH : Sl bi bj ai) (aI : Reads R bm) (aJ : Sl bm bn al) (aK : Has R (cBlk a8 [bb, bf, bh, bj, I aj, I ak, bn, .map (some bF)] 86)) (aL : Has R (cBlk a7 [.func (.func 54) #[Pq a8] #[]] 106)) (aM : Reads R bq) (aN : Sl bq br am) (aO : Reads R bt) (aP : Sl bt bu ao) (aQ : Reads R bv) (aR : Sl bv bw aq) (aS : Reads R bx) (aT : Sl bx bz au) (aU : Reads R bA) (aV : Sl bA bB ax) (aW : Has R (cBlk bp [br, bu, bw, bz, I av, I aw, bB, .map (some bG)] 86)) (aX : Has R (cBlk bo [Pq bp] 72)) (aY : Has R (cBlk ab [.func (.func 69) #[] #[Pq a7, Pq bo]] 114)) {r : (List Dem)} (hM : (zb1 data a m_ b ae ag ah ai aj ak al am ao aq au av aw ax).Ends r) (w : World) (H : St w w [cOwn (α := Dem) 62 aa data] R) : Ret Try.prog 104 #[aa, I a, I m_, I b, .func (.func 71) #[] #[Pq ab]] w fun v w' => ∃ (y0 : List Dem), y0 = r /\ v = .tuple #[] /\ St w w' [cOwn (α := Dem) 62 aa y0] R := by
 refine ret_of_W Try.func104 rfl rfl rfl ?_
 refine W.seq ?_
 refine W.region rfl ?_
 refine zM (I m_) rfl ?_
 refine zM (I a) rfl ?_
 obtain ⟨bH, hM⟩ := M.e_grd hM
 simp only [Bool.and_eq_true, decide_eq_true_eq] at bH
 refine zR m_ a (m_ - a) rfl rfl rfl (by omega) ?_
 refine zA (I (m_ - a)) rfl ?_
 refine s_nil ?_
 refine W.seq ?_
 refine W.region rfl ?_
 refine zM (I b) rfl ?_
 refine zM (I m_) rfl ?_
 obtain ⟨bI, hM⟩ := M.e_grd hM
 simp only [Bool.and_eq_true, decide_eq_true_eq] at bI
 refine zR b m_ (b - m_) rfl rfl rfl (by omega) ?_
 refine zA (I (b - m_)) rfl ?_
 refine s_nil ?_
 refine W.seq ?_
 refine W.block ?_
 obtain ⟨bJ, aZ, bK⟩ := M.e_bind hM
 obtain ⟨b4, aZ⟩ := M.e_iter aZ
 refine W.loop (fun m σ W => ∃ (l : List Dem) (i : Int) (j : Int) (ρ : Env), σ = upds ρ [(0, aa), (2, I m_), (4, .func (.func 71) #[] #[Pq ab]), (10, I i), (11, I j)] /\ M.iterN (zcc m_ ae ag ah ai aj ak al am ao aq au av aw ax) m (l, i, j) = some bJ /\ St w W [cOwn (α := Dem) 62 aa l] R) ?_ ?_
 ·exact ⟨_, data, m_ - a, b - m_, _, upds_of _ _ ⟨rfl, rfl, rfl, rfl, rfl, trivial⟩, aZ, H⟩
 rintro b5 σ b6 ⟨l, i, j, ρ, rfl, bC, H⟩
 obtain ⟨bD, bE, b7, hM, a6⟩ := M.e_iterN bC
 simp only [zcc] at hM
 clear bC
 refine W.seq ?_
 refine W.seq ?_
 refine W.region rfl ?_
 refine zM (I i) rfl ?_
 refine zM (I j) rfl ?_
 refine zC i j (i != j) rfl rfl rfl ?_
 refine s_nil ?_
 refine W.cond (i != j) rfl (fun ay => ?_) (fun ay => ?_)
 ·replace hM := M.e_t hM ay
  simp only [qy1, qy2, qy3, qy4, qy5, qy6, ne_eq, qy7] at ay
  refine W.skip ?_
  refine W.block ?_
  refine W.seq ?_
  refine W.region rfl ?_
  refine zM (I i) rfl ?_
  refine zM (I j) rfl ?_
  refine zC i j (decide (j < i)) rfl rfl rfl ?_
  refine s_nil ?_
  refine W.cond (decide (j < i)) rfl (fun az => ?_) (fun az => ?_)
  ·replace hM := M.e_t hM az
   simp only [qy1, qy2, qy3, qy4, qy5, qy6, ne_eq, qy7] at az
   refine W.seq ?_
   refine W.region rfl ?_
   refine zM aa rfl ?_
   refine zM (I m_) rfl ?_
   refine zM (I i) rfl ?_
   obtain ⟨bL, hM⟩ := M.e_grd hM
   simp only [Bool.and_eq_true, decide_eq_true_eq] at bL
   refine zR m_ i (m_ - i) rfl rfl rfl (by omega) ?_
   refine zM (I m_) rfl ?_
   refine zM (I j) rfl ?_
   refine zM (.func (.func 71) #[] #[Pq ab]) rfl ?_
   obtain ⟨b8, bM, hM⟩ := M.e_bind hM
   refine s_call cf110 [aa, I (m_ - i), I m_, I j, .func (.func 71) #[] #[Pq ab]] rfl (zcz l (m_ - i) m_ j ae ag ah ai aj ak al am ao aq au av aw ax (aA.app _) aB (aC.app _) aD (aE.app _) aF (aG.app _) aH (aI.app _) aJ (aK.app _) (aL.app _) (aM.app _) aN (aO.app _) aP (aQ.app _) aR (aS.app _) aT (aU.app _) aV (aW.app _) (aX.app _) (aY.app _) bM _ (H.gt 0)) ?_
   rintro vq b9 ⟨l_data, bN, hvq, ac⟩
   subst bN
   subst vq
   try dsimp only at hM
   replace H := H.bk ac
   clear ac
   refine s_nil ?_
   refine W.region rfl ?_
   refine zM (I i) rfl ?_
   refine zM (I j) rfl ?_
   obtain ⟨bO, hM⟩ := M.e_grd hM
   simp only [Bool.and_eq_true, decide_eq_true_eq] at bO
   refine zR i j (i - j) rfl rfl rfl (by omega) ?_
   refine zA (I (i - j)) rfl ?_
   refine s_nil ?_
   exact ⟨bD, bE, l_data, i - j, j, _, upds_of _ _ ⟨rfl, rfl, rfl, rfl, rfl, trivial⟩, M.e_inl hM a6, H⟩
  replace hM := M.e_f hM az
  simp only [qy1, qy2, qy3, qy4, qy5, qy6, ne_eq, qy7] at az
  refine W.seq ?_
  refine W.region rfl ?_
  refine zM aa rfl ?_
  refine zM (I m_) rfl ?_
  refine zM (I i) rfl ?_
  obtain ⟨bP, hM⟩ := M.e_grd hM
  simp only [Bool.and_eq_true, decide_eq_true_eq] at bP
  refine zR m_ i (m_ - i) rfl rfl rfl (by omega) ?_
  refine zM (I m_) rfl ?_
  refine zM (I j) rfl ?_
  obtain ⟨bQ, hM⟩ := M.e_grd hM
  simp only [Bool.and_eq_true, decide_eq_true_eq] at bQ
  refine zR m_ j (m_ + j) rfl rfl rfl (by omega) ?_
  refine zM (I i) rfl ?_
  obtain ⟨bR, hM⟩ := M.e_grd hM
  simp only [Bool.and_eq_true, decide_eq_true_eq] at bR
  refine zR (m_ + j) i ((m_ + j) - i) rfl rfl rfl (by omega) ?_
  refine zM (I i) rfl ?_
  refine zM (.func (.func 71) #[] #[Pq ab]) rfl ?_
  obtain ⟨ca, bS, hM⟩ := M.e_bind hM
  refine s_call cf110 [aa, I (m_ - i), I ((m_ + j) - i), I i, .func (.func 71) #[] #[Pq ab]] rfl (zcz l (m_ - i) ((m_ + j) - i) i ae ag ah ai aj ak al am ao aq au av aw ax (aA.app _) aB (aC.app _) aD (aE.app _) aF (aG.app _) aH (aI.app _) aJ (aK.app _) (aL.app _) (aM.app _) aN (aO.app _) aP (aQ.app _) aR (aS.app _) aT (aU.app _) aV (aW.app _) (aX.app _) (aY.app _) bS _ (H.gt 0)) ?_
  rintro vq cb ⟨l_data2, bT, hvq, ac⟩
  subst bT
  subst vq
  try dsimp only at hM
  replace H := H.bk ac
  clear ac
  refine s_nil ?_
  refine W.region rfl ?_
  refine zM (I j) rfl ?_
  refine zM (I i) rfl ?_
  obtain ⟨bU, hM⟩ := M.e_grd hM
  simp only [Bool.and_eq_true, decide_eq_true_eq] at bU
  refine zR j i (j - i) rfl rfl rfl (by omega) ?_
  refine zA (I (j - i)) rfl ?_
  refine s_nil ?_
  exact ⟨bD, bE, l_data2, i, j - i, _, upds_of _ _ ⟨rfl, rfl, rfl, rfl, rfl, trivial⟩, M.e_inl hM a6, H⟩
 replace hM := M.e_f hM ay
 simp only [qy1, qy2, qy3, qy4, qy5, qy6, ne_eq, qy7] at ay
 refine W.exit ?_
 have bV := M.e_inr hM a6
 subst bV
 replace hM := bK
 try dsimp only at hM
 refine W.region rfl ?_
 refine zM aa rfl ?_
 refine zM (I m_) rfl ?_
 refine zM (I i) rfl ?_
 obtain ⟨bW, hM⟩ := M.e_grd hM
 simp only [Bool.and_eq_true, decide_eq_true_eq] at bW
 refine zR m_ i (m_ - i) rfl rfl rfl (by omega) ?_
 refine zM (I m_) rfl ?_
 refine zM (I i) rfl ?_
 refine zM (.func (.func 71) #[] #[Pq ab]) rfl ?_
 obtain ⟨cc, bX, hM⟩ := M.e_bind hM
 refine s_call cf110 [aa, I (m_ - i), I m_, I i, .func (.func 71) #[] #[Pq ab]] rfl (zcz l (m_ - i) m_ i ae ag ah ai aj ak al am ao aq au av aw ax (aA.app _) aB (aC.app _) aD (aE.app _) aF (aG.app _) aH (aI.app _) aJ (aK.app _) (aL.app _) (aM.app _) aN (aO.app _) aP (aQ.app _) aR (aS.app _) aT (aU.app _) aV (aW.app _) (aX.app _) (aY.app _) bX _ (H.gt 0)) ?_
 rintro vq cd ⟨l_data3, bY, hvq, ac⟩
 subst bY
 subst vq
 try dsimp only at hM
 replace H := H.bk ac
 clear ac
 refine s_nil ?_
 have bZ := M.e_pure hM
 exact ⟨_, resE_tmp0 rfl, ⟨l_data3, bZ, rfl, H⟩⟩

end Go.Proofs.Ytbaehghammbjdaa
end
