/- Part 3 of the texts on which the proof rests. Conditions: none. -/
import Derived.Test.YtbaehghammbjdaaGreatZA2
set_option linter.unusedVariables false
set_option linter.unusedSimpArgs false
set_option linter.unusedSectionVars false
section
set_option maxRecDepth 100000
set_option maxHeartbeats 16000000
namespace Go.Proofs.YtbaehghammbjdaaGreat
open Go Go.Nm
def zas (r__Down : List Int) (r__Travel : List Span) : Nat -> M (Nat ⊕ (Int ⊕ Unit)) := fun s =>
  bif decide ((s : Int) < (r__Down.length : Int)) then (
  M.grd (decide ((s : Int) < (r__Down.length : Int))) <|
  M.bind (M.opt ((r__Down.getD s 0) != (-1)) (zac (r__Down.getD s 0) ((s : Int) + 1) ((r__Down.length : Int) - 1)) false) fun r4 =>
  bif (((r__Down.getD s 0) != (-1)) && (!r4)) then (
  M.pure (.inr (.inl 2)))
  else (
  M.grd (decide ((s : Int) < (r__Travel.length : Int))) <|
  M.bind (zaJ (r__Travel.getD s default)) fun r5 =>
  bif !r5 then (
  M.pure (.inr (.inl 130)))
  else (
  M.pure (.inl (s + 1)))))
  else (
  M.pure (.inr (.inr ())))
def zap : Int -> (Int × Int) -> M (Int ⊕ Unit) := fun s3 (x, x2) =>
  M.grd (decide ((-9223372036854775808 : Int) <= (s3 + 1)) && decide ((s3 + 1) <= (9223372036854775807 : Int))) <|
  M.pure (.inl (s3 + 1))
def zav (r__Down : List Int) (r__Travel : List Span) (r__Springs : List Int) (r__Towns : List Town) (r__Delay_Lo : Int) (r__Delay_Hi : Int) (r__Floods : List Flood) : Nat -> M (Nat ⊕ (Int ⊕ Unit)) := fun s4 =>
  bif decide ((s4 : Int) < (r__Floods.length : Int)) then (
  M.grd (decide ((s4 : Int) < (r__Floods.length : Int))) <|
  M.bind (zak r__Down r__Travel r__Springs r__Towns r__Delay_Lo r__Delay_Hi r__Floods (max 0 ((r__Floods.getD s4 default).spring))) fun (r00, r14, r15) =>
  M.bind (zan (M.yl zap) (.inl 0) r00 r__Down r__Travel r__Springs r__Towns r14 r15 r__Floods) fun x_ => match x_ with
  | (.inl s3, q0) => (
  M.bind (za6 r__Springs ((r__Floods.getD s4 default).spring)) fun r10 =>
  bif ((!r10) || ((((r__Floods.getD s4 default).stages).length : Int) != s3)) then (
  M.pure (.inr (.inl 2)))
  else (
  M.bind (zaE ((r__Floods.getD s4 default).stages) (fun xqz => zax xqz)) fun r11 =>
  bif !r11 then (
  M.pure (.inr (.inl 130)))
  else (
  M.pure (.inl (s4 + 1)))))
  | (.inr _, _) => M.fail)
  else (
  M.pure (.inr (.inr ())))
def zaq (r__Down : List Int) (r__Travel : List Span) (r__Springs : List Int) (r__Towns : List Town) (r__Delay_Lo : Int) (r__Delay_Hi : Int) (r__Floods : List Flood) : M Int :=
  M.bind (zac (r__Down.length : Int) 1 12) fun r2 =>
  M.bind (M.opt (!((!r2) || ((r__Travel.length : Int) != (r__Down.length : Int)))) (zac (r__Springs.length : Int) 1 8) false) fun r3 =>
  bif (((((!r2) || ((r__Travel.length : Int) != (r__Down.length : Int))) || (!r3)) || (decide (8 < (r__Towns.length : Int)))) || (decide (20 < (r__Floods.length : Int)))) then (
  M.pure 3)
  else (
  M.bind (M.iter (zas r__Down r__Travel) 0) fun x_ => match x_ with
  | (.inl s2) => (
  M.pure s2)
  | (.inr (_ : Unit)) => (
  M.bind (zau r__Springs (r__Down.length : Int)) fun r6 =>
  bif !r6 then (
  M.pure 9)
  else (
  M.bind (zaK r__Towns (fun xqz => zaL xqz)) fun r7 =>
  M.bind (M.opt (!(!r7)) (zaK r__Towns (fun xqz => zaF xqz (r__Down.length : Int))) false) fun r8 =>
  M.bind (M.opt (!((!r7) || (!r8))) (zaJ (⟨(r__Delay_Lo : Int), (r__Delay_Hi : Int)⟩ : Span)) false) fun r9 =>
  bif (((!r7) || (!r8)) || (!r9)) then (
  M.pure 130)
  else (
  M.bind (M.iter (zav r__Down r__Travel r__Springs r__Towns r__Delay_Lo r__Delay_Hi r__Floods) 0) fun x_ => match x_ with
  | (.inl s5) => (
  M.pure s5)
  | (.inr (_ : Unit)) => (
  M.pure 0)))))
theorem zcQ {R : List Chunk} {C_r__Down : Cells} {v_r__Down : Value} {C_r__Travel : Cells} {v_r__Travel : Value} {C_r__Springs : Cells} {v_r__Springs : Value} {C_r__Towns : Cells} {v_r__Towns : Value} {C_r__Floods : Cells} {v_r__Floods : Value} (r__Down : List Int) (r__Travel : List Span) (r__Springs : List Int) (r__Towns : List Town) (r__Delay_Lo : Int) (r__Delay_Hi : Int) (r__Floods : List Flood) (hC_r__Down : Reads R C_r__Down) (hs_r__Down : Sl C_r__Down v_r__Down r__Down) (hC_r__Travel : Reads R C_r__Travel) (hs_r__Travel : Sl C_r__Travel v_r__Travel r__Travel) (hC_r__Springs : Reads R C_r__Springs) (hs_r__Springs : Sl C_r__Springs v_r__Springs r__Springs) (hC_r__Towns : Reads R C_r__Towns) (hs_r__Towns : Sl C_r__Towns v_r__Towns r__Towns) (hC_r__Floods : Reads R C_r__Floods) (hs_r__Floods : Sl C_r__Floods v_r__Floods r__Floods) {r : Int} (hM : (zaq r__Down r__Travel r__Springs r__Towns r__Delay_Lo r__Delay_Hi r__Floods).Ends r) (w : World) (H : St w w [] R) : Ret Tryz.prog 19 #[.agg #[v_r__Down, v_r__Travel, v_r__Springs, v_r__Towns, I r__Delay_Lo, I r__Delay_Hi, v_r__Floods]] w fun v w' => ∃ (y0 : Int), y0 = r /\ v = I y0 /\ St w w' [] R := by
 refine ret_of_WD Tryz.func19 rfl rfl rfl ?_
 replace H : St w w [cMk ([])] R := H.mk0
 have hl_r__Down := hs_r__Down.len_le
 have hl_r__Travel := hs_r__Travel.len_le
 have hl_r__Springs := hs_r__Springs.len_le
 have hl_r__Towns := hs_r__Towns.len_le
 have hl_r__Floods := hs_r__Floods.len_le
 unfold zaq at hM
 refine WD.seq ?_
 refine WD.of ?_
 refine W.region rfl ?_
 refine t_box (v := .agg #[v_r__Down, v_r__Travel, v_r__Springs, v_r__Towns, I r__Delay_Lo, I r__Delay_Hi, v_r__Floods]) (cs := [v_r__Down, v_r__Travel, v_r__Springs, v_r__Towns, I r__Delay_Lo, I r__Delay_Hi, v_r__Floods]) H rfl rfl ?_
 intro b_1 w1z H
 refine s_val (x_as (v := I 0) rfl) ?_
 refine s_nil ?_
 refine WD.seq ?_
 refine WD.of ?_
 refine W.region rfl ?_
 refine s_val (x_fa (a := .pointer (some ⟨b_1, 0, none⟩)) (v := .pointer (some ⟨b_1, 0, none⟩)) rfl (fa_blk (o := 0) Fd29_0 Sz22)) ?_
 refine s_val (x_ld (p := .pointer (some ⟨b_1, 0, none⟩)) (v := v_r__Down) rfl (ldb_sc Sc22 (H.blk (k := 0) rfl) rfl)) ?_
 have hl2z := (hs_r__Down).len_le
 refine s_val (x_lenS T22.und rfl hs_r__Down) ?_
 refine t_alloc (cs := [I 0]) H Al3 rfl ?_
 intro b_2 w3z H
 refine t_sw 0 0 [I (r__Down.length : Int)] (I (r__Down.length : Int)) H rfl rfl Sz3 rfl rfl rfl rfl ?_
 intro w4z H
 refine s_nil ?_
 refine WD.seq ?_
 refine WD.seq ?_
 refine WD.of ?_
 refine W.region rfl ?_
 refine s_val (x_ld (p := .pointer (some ⟨b_2, 0, none⟩)) (v := I (r__Down.length : Int)) rfl (ldb_sc Sc3 (H.blk (k := 0) rfl) rfl)) ?_
 obtain ⟨r6z, hx5z, hM⟩ := M.e_bind hM
 refine s_call cf47 [I (r__Down.length : Int), I 1, I 12] rfl (zaj (r__Down.length : Int) 1 12 hx5z _ (H.gt 3)) ?_
 rintro vq w7z ⟨r2, hr8z, hvq, H2_⟩
 subst hr8z
 subst vq
 try dsimp only at hM
 replace H := H.bk H2_
 clear H2_
 refine s_val (x_not (b := r2) rfl) ?_
 refine s_val (x_mv (v := B (!r2)) rfl) ?_
 refine g_val (!(!r2)) (gy_f rfl) (fun hg => x_fa (a := .pointer (some ⟨b_1, 0, none⟩)) (v := .pointer (some ⟨b_1, 1, none⟩)) rfl (fa_blk (o := 0) Fd29_1 Sz23)) ?_
 refine g_val (!(!r2)) (gy_f rfl) (fun hg => x_ld (p := .pointer (some ⟨b_1, 1, none⟩)) (v := v_r__Travel) (gd_of (c := !(!r2)) hg (.pointer (some ⟨b_1, 1, none⟩))) (ldb_sc Sc23 (H.blk (k := 1) rfl) rfl)) ?_
 have hl9z := (hs_r__Travel).len_le
 refine g_val (!(!r2)) (gy_f rfl) (fun hg => x_lenS T23.und (gd_of (c := !(!r2)) hg (v_r__Travel)) hs_r__Travel) ?_
 refine g_val (!(!r2)) (gy_f rfl) (fun hg => x_ld (p := .pointer (some ⟨b_2, 0, none⟩)) (v := I (r__Down.length : Int)) rfl (ldb_sc Sc3 (H.blk (k := 0) rfl) rfl)) ?_
 refine g_val (!(!r2)) (gy_f rfl) (fun hg => x_cmp (kd := .i64) (a := (r__Travel.length : Int)) (b := (r__Down.length : Int)) (r := (r__Travel.length : Int) != (r__Down.length : Int)) (gd_of (c := !(!r2)) hg (I (r__Travel.length : Int))) (gd_of (c := !(!r2)) hg (I (r__Down.length : Int))) rfl) ?_
 refine s_val (x_por (b := !r2) (r := (r__Travel.length : Int) != (r__Down.length : Int)) rfl rfl (fun hb => gd_of (c := !(!r2)) (by first | exact hb | (rw [hb]; rfl) | simp_all) (B ((r__Travel.length : Int) != (r__Down.length : Int))))) ?_
 refine s_val (x_mv (v := B ((!r2) || ((r__Travel.length : Int) != (r__Down.length : Int)))) rfl) ?_
 refine g_val (!((!r2) || ((r__Travel.length : Int) != (r__Down.length : Int)))) (gy_f rfl) (fun hg => x_fa (a := .pointer (some ⟨b_1, 0, none⟩)) (v := .pointer (some ⟨b_1, 2, none⟩)) rfl (fa_blk (o := 0) Fd29_2 Sz22)) ?_
 refine g_val (!((!r2) || ((r__Travel.length : Int) != (r__Down.length : Int)))) (gy_f rfl) (fun hg => x_ld (p := .pointer (some ⟨b_1, 2, none⟩)) (v := v_r__Springs) (gd_of (c := !((!r2) || ((r__Travel.length : Int) != (r__Down.length : Int)))) hg (.pointer (some ⟨b_1, 2, none⟩))) (ldb_sc Sc22 (H.blk (k := 1) rfl) rfl)) ?_
 have hl10z := (hs_r__Springs).len_le
 refine g_val (!((!r2) || ((r__Travel.length : Int) != (r__Down.length : Int)))) (gy_f rfl) (fun hg => x_lenS T22.und (gd_of (c := !((!r2) || ((r__Travel.length : Int) != (r__Down.length : Int)))) hg (v_r__Springs)) hs_r__Springs) ?_
 obtain ⟨r3, hx11z, hM⟩ := M.e_bind hM
 refine t_gcall (!((!r2) || ((r__Travel.length : Int) != (r__Down.length : Int)))) (gy_f rfl) cf47 (B r3) (fun _ => [I (r__Springs.length : Int), I 1, I 8]) (fun hg => lst3 (gd_of (c := !((!r2) || ((r__Travel.length : Int) != (r__Down.length : Int)))) hg (I (r__Springs.length : Int))) rfl rfl) H (fun hg => (zaj (r__Springs.length : Int) 1 8 (M.e_opt hx11z hg) _ (H.give (A := []) rfl)).mono fun v_ w_ ⟨y_, hr_, hv_, H_⟩ => by subst hr_; exact ⟨hv_, H.via H_⟩) ?_
 intro w12z H
 refine g_val (!((!r2) || ((r__Travel.length : Int) != (r__Down.length : Int)))) (gy_f rfl) (fun hg => x_not (b := r3) (gd_of (c := !((!r2) || ((r__Travel.length : Int) != (r__Down.length : Int)))) hg (B r3))) ?_
 refine s_val (x_por (b := ((!r2) || ((r__Travel.length : Int) != (r__Down.length : Int)))) (r := !r3) rfl rfl (fun hb => gd_of (c := !((!r2) || ((r__Travel.length : Int) != (r__Down.length : Int)))) (by first | exact hb | (rw [hb]; rfl) | simp_all) (B (!r3)))) ?_
 refine s_val (x_mv (v := B (((!r2) || ((r__Travel.length : Int) != (r__Down.length : Int))) || (!r3))) rfl) ?_
 refine g_val (!(((!r2) || ((r__Travel.length : Int) != (r__Down.length : Int))) || (!r3))) (gy_f rfl) (fun hg => x_fa (a := .pointer (some ⟨b_1, 0, none⟩)) (v := .pointer (some ⟨b_1, 3, none⟩)) rfl (fa_blk (o := 0) Fd29_3 Sz24)) ?_
 refine g_val (!(((!r2) || ((r__Travel.length : Int) != (r__Down.length : Int))) || (!r3))) (gy_f rfl) (fun hg => x_ld (p := .pointer (some ⟨b_1, 3, none⟩)) (v := v_r__Towns) (gd_of (c := !(((!r2) || ((r__Travel.length : Int) != (r__Down.length : Int))) || (!r3))) hg (.pointer (some ⟨b_1, 3, none⟩))) (ldb_sc Sc24 (H.blk (k := 1) rfl) rfl)) ?_
 have hl13z := (hs_r__Towns).len_le
 refine g_val (!(((!r2) || ((r__Travel.length : Int) != (r__Down.length : Int))) || (!r3))) (gy_f rfl) (fun hg => x_lenS T24.und (gd_of (c := !(((!r2) || ((r__Travel.length : Int) != (r__Down.length : Int))) || (!r3))) hg (v_r__Towns)) hs_r__Towns) ?_
 refine g_val (!(((!r2) || ((r__Travel.length : Int) != (r__Down.length : Int))) || (!r3))) (gy_f rfl) (fun hg => x_cmp (kd := .i64) (a := (r__Towns.length : Int)) (b := 8) (r := decide (8 < (r__Towns.length : Int))) (gd_of (c := !(((!r2) || ((r__Travel.length : Int) != (r__Down.length : Int))) || (!r3))) hg (I (r__Towns.length : Int))) rfl rfl) ?_
 refine s_val (x_por (b := (((!r2) || ((r__Travel.length : Int) != (r__Down.length : Int))) || (!r3))) (r := decide (8 < (r__Towns.length : Int))) rfl rfl (fun hb => gd_of (c := !(((!r2) || ((r__Travel.length : Int) != (r__Down.length : Int))) || (!r3))) (by first | exact hb | (rw [hb]; rfl) | simp_all) (B (decide (8 < (r__Towns.length : Int)))))) ?_
 refine s_val (x_mv (v := B ((((!r2) || ((r__Travel.length : Int) != (r__Down.length : Int))) || (!r3)) || (decide (8 < (r__Towns.length : Int))))) rfl) ?_
 refine g_val (!((((!r2) || ((r__Travel.length : Int) != (r__Down.length : Int))) || (!r3)) || (decide (8 < (r__Towns.length : Int))))) (gy_f rfl) (fun hg => x_fa (a := .pointer (some ⟨b_1, 0, none⟩)) (v := .pointer (some ⟨b_1, 6, none⟩)) rfl (fa_blk (o := 0) Fd29_5 Sz27)) ?_
 refine g_val (!((((!r2) || ((r__Travel.length : Int) != (r__Down.length : Int))) || (!r3)) || (decide (8 < (r__Towns.length : Int))))) (gy_f rfl) (fun hg => x_ld (p := .pointer (some ⟨b_1, 6, none⟩)) (v := v_r__Floods) (gd_of (c := !((((!r2) || ((r__Travel.length : Int) != (r__Down.length : Int))) || (!r3)) || (decide (8 < (r__Towns.length : Int))))) hg (.pointer (some ⟨b_1, 6, none⟩))) (ldb_sc Sc27 (H.blk (k := 1) rfl) rfl)) ?_
 have hl14z := (hs_r__Floods).len_le
 refine g_val (!((((!r2) || ((r__Travel.length : Int) != (r__Down.length : Int))) || (!r3)) || (decide (8 < (r__Towns.length : Int))))) (gy_f rfl) (fun hg => x_lenS T27.und (gd_of (c := !((((!r2) || ((r__Travel.length : Int) != (r__Down.length : Int))) || (!r3)) || (decide (8 < (r__Towns.length : Int))))) hg (v_r__Floods)) hs_r__Floods) ?_
 refine g_val (!((((!r2) || ((r__Travel.length : Int) != (r__Down.length : Int))) || (!r3)) || (decide (8 < (r__Towns.length : Int))))) (gy_f rfl) (fun hg => x_cmp (kd := .i64) (a := (r__Floods.length : Int)) (b := 20) (r := decide (20 < (r__Floods.length : Int))) (gd_of (c := !((((!r2) || ((r__Travel.length : Int) != (r__Down.length : Int))) || (!r3)) || (decide (8 < (r__Towns.length : Int))))) hg (I (r__Floods.length : Int))) rfl rfl) ?_
 refine s_val (x_por (b := ((((!r2) || ((r__Travel.length : Int) != (r__Down.length : Int))) || (!r3)) || (decide (8 < (r__Towns.length : Int))))) (r := decide (20 < (r__Floods.length : Int))) rfl rfl (fun hb => gd_of (c := !((((!r2) || ((r__Travel.length : Int) != (r__Down.length : Int))) || (!r3)) || (decide (8 < (r__Towns.length : Int))))) (by first | exact hb | (rw [hb]; rfl) | simp_all) (B (decide (20 < (r__Floods.length : Int)))))) ?_
 refine s_nil ?_
 refine WD.cond (((((!r2) || ((r__Travel.length : Int) != (r__Down.length : Int))) || (!r3)) || (decide (8 < (r__Towns.length : Int)))) || (decide (20 < (r__Floods.length : Int)))) rfl (fun c15z => ?_) (fun c15z => ?_)
 ·replace hM := M.e_t hM c15z
  refine WD.seq ?_
  refine WD.of ?_
  refine W.region rfl ?_
  refine s_val (x_as (v := I 3) rfl) ?_
  refine s_nil ?_
  replace H := H.pk [2]
  refine WD.of ?_
  refine W.ret ?_
  refine bodyD_r (H.pk [0]) ?_
  intro w16z H
  replace H := H.nf
  have hr_ := M.e_pure hM
  exact ⟨_, resE_tmp rfl, ⟨3, hr_, rfl, H⟩⟩
 replace hM := M.e_f hM c15z
 refine WD.of ?_
 refine W.skip ?_
 refine WD.seq ?_
 refine WD.seq ?_
 refine WD.of ?_
 refine W.region rfl ?_
 refine s_val (x_fa (a := .pointer (some ⟨b_1, 0, none⟩)) (v := .pointer (some ⟨b_1, 0, none⟩)) rfl (fa_blk (o := 0) Fd29_0 Sz22)) ?_
 refine s_val (x_ld (p := .pointer (some ⟨b_1, 0, none⟩)) (v := v_r__Down) rfl (ldb_sc Sc22 (H.blk (k := 1) rfl) rfl)) ?_
 have hl17z := (hs_r__Down).len_le
 refine s_val (x_lenS T22.und rfl hs_r__Down) ?_
 refine s_val (x_mv (v := I 0) rfl) ?_
 refine s_nil ?_
 refine WD.block ?_
 obtain ⟨ex18z, hi19z, hk20z⟩ := M.e_bind hM
 obtain ⟨m0_, hi19z⟩ := M.e_iter hi19z
 refine WD.loop (fun m Ds21z σ W => ∃ (s : Nat) (ρ : Env), σ = upds ρ [(1, .pointer (some ⟨b_1, 0, none⟩)), (3, .pointer (some ⟨b_2, 0, none⟩)), (42, v_r__Down), (43, I (r__Down.length : Int)), (44, I (s : Int))] /\ M.iterN (zas r__Down r__Travel) m s = some ex18z /\ St w W [cBlk b_2 [I (r__Down.length : Int)] 3, cBlk b_1 [v_r__Down, v_r__Travel, v_r__Springs, v_r__Towns, I r__Delay_Lo, I r__Delay_Hi, v_r__Floods] 29, cMk Ds21z] R) ?_ ?_
 ·exact ⟨_, 0, _, upds_of _ _ ⟨rfl, rfl, rfl, rfl, rfl, trivial⟩, hi19z, H⟩
 rintro m24z Ds21z σ w22z ⟨s, ρ, rfl, hI23z, H⟩
 obtain ⟨m25z, lt26z, x27z, hM, hN28z⟩ := M.e_iterN hI23z
 simp only [zas] at hM
 clear hI23z
 refine WD.seq ?_
 refine WD.of ?_
 refine W.region rfl ?_
 refine s_val (x_cmp (kd := .i64) (a := (s : Int)) (b := (r__Down.length : Int)) (r := decide ((s : Int) < (r__Down.length : Int))) rfl rfl rfl) ?_
 refine s_nil ?_
 refine WD.seq ?_
 refine WD.cond (decide ((s : Int) < (r__Down.length : Int))) rfl (fun c29z => ?_) (fun c29z => ?_)
 ·replace hM := M.e_t hM c29z
  simp only [decide_eq_true_eq, decide_eq_false_iff_not, beq_iff_eq, bne_iff_ne, beq_eq_false_iff_ne, bne_eq_false_iff_eq, ne_eq, Decidable.not_not] at c29z
  refine WD.of ?_
  refine W.skip ?_
  refine WD.seq ?_
  refine WD.block ?_
  refine WD.seq ?_
  refine WD.of ?_
  refine W.region rfl ?_
  refine s_val (x_mv (v := I (s : Int)) rfl) ?_
  obtain ⟨sd30z, hM⟩ := M.e_grd hM
  simp only [Bool.and_eq_true, decide_eq_true_eq] at sd30z
  refine s_val (x_ix (a := v_r__Down) (b := I (s : Int)) (v := vat v_r__Down 1 (Int.toNat (s : Int))) rfl rfl (Sl.ix (α := Int) T22.und T22.size hs_r__Down (by omega) (by omega))) ?_
  refine s_val (x_ld (p := vat v_r__Down 1 (Int.toNat (s : Int))) (v := I (r__Down.getD s 0)) rfl (ld_sc Sc3 (At.mono (Int_at hs_r__Down (i := (s : Int)) (by omega) (by omega)) (hC_r__Down.at H)))) ?_
  refine s_val (x_as (v := I (s : Int)) rfl) ?_
  refine s_val (x_as (v := I (r__Down.getD s 0)) rfl) ?_
  refine s_nil ?_
  refine WD.block ?_
  refine WD.seq ?_
  refine WD.of ?_
  refine W.region rfl ?_
  refine s_val (x_mv (v := I (r__Down.getD s 0)) rfl) ?_
  refine s_val (x_cmp (kd := .i64) (a := r__Down.getD s 0) (b := -1) (r := (r__Down.getD s 0) != (-1)) rfl rfl rfl) ?_
  refine s_val (x_mv (v := B ((r__Down.getD s 0) != (-1))) rfl) ?_
  refine g_val ((r__Down.getD s 0) != (-1)) (gy_t rfl) (fun hg => x_mv (v := I (r__Down.getD s 0)) rfl) ?_
  refine g_val ((r__Down.getD s 0) != (-1)) (gy_t rfl) (fun hg => x_mv (v := I (s : Int)) rfl) ?_
  refine g_val ((r__Down.getD s 0) != (-1)) (gy_t rfl) (fun hg => x_ari (a := (s : Int)) (b := 1) (r := (s : Int) + 1) (gd_of (c := (r__Down.getD s 0) != (-1)) hg (I (s : Int))) rfl rfl (by first | omega | (have hx_ := hg; simp at hx_; omega))) ?_
  refine g_val ((r__Down.getD s 0) != (-1)) (gy_t rfl) (fun hg => x_ld (p := .pointer (some ⟨b_2, 0, none⟩)) (v := I (r__Down.length : Int)) rfl (ldb_sc Sc3 (H.blk (k := 0) rfl) rfl)) ?_
  refine g_val ((r__Down.getD s 0) != (-1)) (gy_t rfl) (fun hg => x_ari (a := (r__Down.length : Int)) (b := 1) (r := (r__Down.length : Int) - 1) (gd_of (c := (r__Down.getD s 0) != (-1)) hg (I (r__Down.length : Int))) rfl rfl (by first | omega | (have hx_ := hg; simp at hx_; omega))) ?_
  obtain ⟨r4, hx31z, hM⟩ := M.e_bind hM
  refine t_gcall ((r__Down.getD s 0) != (-1)) (gy_t rfl) cf47 (B r4) (fun _ => [I (r__Down.getD s 0), I ((s : Int) + 1), I ((r__Down.length : Int) - 1)]) (fun hg => lst3 (gd_of (c := (r__Down.getD s 0) != (-1)) hg (I (r__Down.getD s 0))) (gd_of (c := (r__Down.getD s 0) != (-1)) hg (I ((s : Int) + 1))) (gd_of (c := (r__Down.getD s 0) != (-1)) hg (I ((r__Down.length : Int) - 1)))) H (fun hg => (zaj (r__Down.getD s 0) ((s : Int) + 1) ((r__Down.length : Int) - 1) (M.e_opt hx31z hg) _ (H.give (A := []) rfl)).mono fun v_ w_ ⟨y_, hr_, hv_, H_⟩ => by subst hr_; exact ⟨hv_, H.via H_⟩) ?_
  intro w32z H
  refine g_val ((r__Down.getD s 0) != (-1)) (gy_t rfl) (fun hg => x_not (b := r4) (gd_of (c := (r__Down.getD s 0) != (-1)) hg (B r4))) ?_
  refine s_val (x_pand (b := (r__Down.getD s 0) != (-1)) (r := !r4) rfl (fun hb => gd_of (c := (r__Down.getD s 0) != (-1)) (by first | exact hb | (rw [hb]; rfl) | simp_all) (B (!r4))) rfl) ?_
  refine s_val (x_as (v := B (((r__Down.getD s 0) != (-1)) && (!r4))) rfl) ?_
  refine s_nil ?_
  refine WD.cond (((r__Down.getD s 0) != (-1)) && (!r4)) rfl (fun c33z => ?_) (fun c33z => ?_)
  ·replace hM := M.e_t hM c33z
   refine WD.seq ?_
   refine WD.of ?_
   refine W.region rfl ?_
   refine s_val (x_as (v := I 2) rfl) ?_
   refine s_nil ?_
   refine WD.of ?_
   refine W.ret ?_
   have hX34z := M.e_inr hM hN28z
   subst hX34z
   replace hM := hk20z
   try dsimp only at hM
   refine bodyD_r (H.pk [2, 0, 1]) ?_
   intro w35z H
   replace H := H.nf
   have hr_ := M.e_pure hM
   exact ⟨_, resE_tmp rfl, ⟨2, hr_, rfl, (H.pk [])⟩⟩
  replace hM := M.e_f hM c33z
  refine WD.seq ?_
  refine WD.of ?_
  refine W.region rfl ?_
  refine s_val (x_fa (a := .pointer (some ⟨b_1, 0, none⟩)) (v := .pointer (some ⟨b_1, 1, none⟩)) rfl (fa_blk (o := 0) Fd29_1 Sz23)) ?_
  refine s_val (x_ld (p := .pointer (some ⟨b_1, 1, none⟩)) (v := v_r__Travel) rfl (ldb_sc Sc23 (H.blk (k := 1) rfl) rfl)) ?_
  refine s_val (x_mv (v := I (s : Int)) rfl) ?_
  obtain ⟨sd36z, hM⟩ := M.e_grd hM
  simp only [Bool.and_eq_true, decide_eq_true_eq] at sd36z
  refine s_val (x_ix (a := v_r__Travel) (b := I (s : Int)) (v := vat v_r__Travel 2 (Int.toNat (s : Int))) rfl rfl (Sl.ix (α := Span) T23.und T23.size hs_r__Travel (by omega) (by omega))) ?_
  refine s_val (x_ld (p := vat v_r__Travel 2 (Int.toNat (s : Int))) (v := .agg #[I ((r__Travel.getD s default).lo), I ((r__Travel.getD s default).hi)]) rfl (ld_ag Ag26 Sz26 (At.mono (Span_atA hs_r__Travel (i := (s : Int)) (by omega) (by omega)) (hC_r__Travel.at H)))) ?_
  obtain ⟨r38z, hx37z, hM⟩ := M.e_bind hM
  refine s_call cf61 [.agg #[I ((r__Travel.getD s default).lo), I ((r__Travel.getD s default).hi)]] rfl (zcr (r__Travel.getD s default) hx37z _ (H.gt 3)) ?_
  rintro vq w39z ⟨r5, hr40z, hvq, H2_⟩
  subst hr40z
  subst vq
  try dsimp only at hM
  replace H := H.bk H2_
  clear H2_
  refine s_val (x_not (b := r5) rfl) ?_
  refine s_val (x_as (v := B (!r5)) rfl) ?_
  refine s_nil ?_
  refine WD.cond (!r5) rfl (fun c41z => ?_) (fun c41z => ?_)
  ·replace hM := M.e_t hM c41z
   refine WD.seq ?_
   refine WD.of ?_
   refine W.region rfl ?_
   refine s_val (x_as (v := I 130) rfl) ?_
   refine s_nil ?_
   refine WD.of ?_
   refine W.ret ?_
   have hX42z := M.e_inr hM hN28z
   subst hX42z
   replace hM := hk20z
   try dsimp only at hM
   refine bodyD_r (H.pk [2, 0, 1]) ?_
   intro w43z H
   replace H := H.nf
   have hr_ := M.e_pure hM
   exact ⟨_, resE_tmp rfl, ⟨130, hr_, rfl, (H.pk [])⟩⟩
  replace hM := M.e_f hM c41z
  refine WD.of ?_
  refine W.skip ?_
  refine WD.of ?_
  refine W.region rfl ?_
  refine s_val (x_ari (a := (s : Int)) (b := 1) (r := (s : Int) + 1) rfl rfl rfl (by omega)) ?_
  refine s_val (x_mv (v := I ((s : Int) + 1)) rfl) ?_
  refine s_nil ?_
  exact ⟨m25z, lt26z, s + 1, _, upds_of _ _ ⟨rfl, rfl, rfl, rfl, rfl, trivial⟩, M.e_inl hM hN28z, H⟩
 replace hM := M.e_f hM c29z
 simp only [decide_eq_true_eq, decide_eq_false_iff_not, beq_iff_eq, bne_iff_ne, beq_eq_false_iff_ne, bne_eq_false_iff_eq, ne_eq, Decidable.not_not] at c29z
 refine WD.of ?_
 refine W.exit ?_
 have hX44z := M.e_inr hM hN28z
 subst hX44z
 replace hM := hk20z
 try dsimp only at hM
 refine WD.seq ?_
 refine WD.block ?_
 refine WD.seq ?_
 refine WD.of ?_
 refine W.region rfl ?_
 refine s_val (x_fa (a := .pointer (some ⟨b_1, 0, none⟩)) (v := .pointer (some ⟨b_1, 2, none⟩)) rfl (fa_blk (o := 0) Fd29_2 Sz22)) ?_
 refine s_val (x_ld (p := .pointer (some ⟨b_1, 2, none⟩)) (v := v_r__Springs) rfl (ldb_sc Sc22 (H.blk (k := 1) rfl) rfl)) ?_
 refine s_val (x_ld (p := .pointer (some ⟨b_2, 0, none⟩)) (v := I (r__Down.length : Int)) rfl (ldb_sc Sc3 (H.blk (k := 0) rfl) rfl)) ?_
 obtain ⟨r46z, hx45z, hM⟩ := M.e_bind hM
 refine s_call cf62 [v_r__Springs, I (r__Down.length : Int)] rfl (zb8 r__Springs (r__Down.length : Int) (hC_r__Springs.app _) hs_r__Springs hx45z _ (H.gt 3)) ?_
 rintro vq w47z ⟨r6, hr48z, hvq, H2_⟩
 subst hr48z
 subst vq
 try dsimp only at hM
 replace H := H.bk H2_
 clear H2_
 refine s_val (x_not (b := r6) rfl) ?_
 refine s_val (x_as (v := B (!r6)) rfl) ?_
 refine s_nil ?_
 refine WD.cond (!r6) rfl (fun c49z => ?_) (fun c49z => ?_)
 ·replace hM := M.e_t hM c49z
  refine WD.seq ?_
  refine WD.of ?_
  refine W.region rfl ?_
  refine s_val (x_as (v := I 9) rfl) ?_
  refine s_nil ?_
  replace H := H.pk [2]
  refine WD.of ?_
  refine W.ret ?_
  refine bodyD_r (H.pk [0]) ?_
  intro w50z H
  replace H := H.nf
  have hr_ := M.e_pure hM
  exact ⟨_, resE_tmp rfl, ⟨9, hr_, rfl, H⟩⟩
 replace hM := M.e_f hM c49z
 refine WD.seq ?_
 refine WD.of ?_
 refine W.region rfl ?_
 refine s_val (x_fa (a := .pointer (some ⟨b_1, 0, none⟩)) (v := .pointer (some ⟨b_1, 3, none⟩)) rfl (fa_blk (o := 0) Fd29_3 Sz24)) ?_
 refine s_val (x_ld (p := .pointer (some ⟨b_1, 3, none⟩)) (v := v_r__Towns) rfl (ldb_sc Sc24 (H.blk (k := 1) rfl) rfl)) ?_
 obtain ⟨r52z, hx51z, hM⟩ := M.e_bind hM
 refine s_call cf63 [v_r__Towns, .func (.func 64) #[] #[]] rfl (zcy r__Towns (fun xqz => zaL xqz) (hC_r__Towns.app _) hs_r__Towns ⟨64, [], rfl, cf64, fun wqz Lqz Cqz vqz xqz bqz hsqz hCqz hAqz hpqz => by obtain rfl := Town_arg hAqz; exact (zdz xqz hpqz wqz (St.refl hsqz)).mono fun vqz wqz ⟨yqz, hrqz, hvqz, Hqz⟩ => by subst hrqz; exact ⟨hvqz, Hqz⟩⟩ hx51z _ (H.gt 3)) ?_
 rintro vq w53z ⟨r7, hr54z, hvq, H2_⟩
 subst hr54z
 subst vq
 try dsimp only at hM
 replace H := H.bk H2_
 clear H2_
 refine s_val (x_not (b := r7) rfl) ?_
 refine s_val (x_mv (v := B (!r7)) rfl) ?_
 refine g_val (!(!r7)) (gy_f rfl) (fun hg => x_fa (a := .pointer (some ⟨b_1, 0, none⟩)) (v := .pointer (some ⟨b_1, 3, none⟩)) rfl (fa_blk (o := 0) Fd29_3 Sz24)) ?_
 refine g_val (!(!r7)) (gy_f rfl) (fun hg => x_ld (p := .pointer (some ⟨b_1, 3, none⟩)) (v := v_r__Towns) (gd_of (c := !(!r7)) hg (.pointer (some ⟨b_1, 3, none⟩))) (ldb_sc Sc24 (H.blk (k := 1) rfl) rfl)) ?_
 refine g_val (!(!r7)) (gy_f rfl) (fun hg => x_mf (fs := []) (cs := [.pointer (some ⟨b_2, 0, none⟩)]) rfl rfl) ?_
 obtain ⟨r8, hx55z, hM⟩ := M.e_bind hM
 refine t_gcall (!(!r7)) (gy_f rfl) cf63 (B r8) (fun _ => [v_r__Towns, .func (.func 65) #[] #[.pointer (some ⟨b_2, 0, none⟩)]]) (fun hg => lst2 (gd_of (c := !(!r7)) hg (v_r__Towns)) (gd_of (c := !(!r7)) hg (.func (.func 65) #[] #[.pointer (some ⟨b_2, 0, none⟩)]))) H (fun hg => (zcy r__Towns (fun xqz => zaF xqz (r__Down.length : Int)) (hC_r__Towns.app _) hs_r__Towns ⟨65, [.pointer (some ⟨b_2, 0, none⟩)], rfl, cf65, fun wqz Lqz Cqz vqz xqz bqz hsqz hCqz hAqz hpqz => by obtain rfl := Town_arg hAqz; exact (zc1 xqz (r__Down.length : Int) (Has.app (Has.here (k := 0) rfl) _) hpqz wqz (St.refl hsqz)).mono fun vqz wqz ⟨yqz, hrqz, hvqz, Hqz⟩ => by subst hrqz; exact ⟨hvqz, Hqz⟩⟩ (M.e_opt hx55z hg) _ (H.give (A := []) rfl)).mono fun v_ w_ ⟨y_, hr_, hv_, H_⟩ => by subst hr_; exact ⟨hv_, H.via H_⟩) ?_
 intro w56z H
 refine g_val (!(!r7)) (gy_f rfl) (fun hg => x_not (b := r8) (gd_of (c := !(!r7)) hg (B r8))) ?_
 refine s_val (x_por (b := !r7) (r := !r8) rfl rfl (fun hb => gd_of (c := !(!r7)) (by first | exact hb | (rw [hb]; rfl) | simp_all) (B (!r8)))) ?_
 refine s_val (x_mv (v := B ((!r7) || (!r8))) rfl) ?_
 refine g_val (!((!r7) || (!r8))) (gy_f rfl) (fun hg => x_fa (a := .pointer (some ⟨b_1, 0, none⟩)) (v := .pointer (some ⟨b_1, 4, none⟩)) rfl (fa_blk (o := 0) Fd29_4 Sz26)) ?_
 refine g_val (!((!r7) || (!r8))) (gy_f rfl) (fun hg => x_ld (p := .pointer (some ⟨b_1, 4, none⟩)) (v := .agg #[I r__Delay_Lo, I r__Delay_Hi]) (gd_of (c := !((!r7) || (!r8))) hg (.pointer (some ⟨b_1, 4, none⟩))) (ldb_ag (ds := [I r__Delay_Lo, I r__Delay_Hi]) Ag26 Sz26 (H.blk (k := 1) rfl) rfl rfl)) ?_
 obtain ⟨r9, hx57z, hM⟩ := M.e_bind hM
 refine t_gcall (!((!r7) || (!r8))) (gy_f rfl) cf61 (B r9) (fun _ => [.agg #[I r__Delay_Lo, I r__Delay_Hi]]) (fun hg => lst1 (gd_of (c := !((!r7) || (!r8))) hg (.agg #[I r__Delay_Lo, I r__Delay_Hi]))) H (fun hg => (zcr (⟨(r__Delay_Lo : Int), (r__Delay_Hi : Int)⟩ : Span) (M.e_opt hx57z hg) _ (H.give (A := []) rfl)).mono fun v_ w_ ⟨y_, hr_, hv_, H_⟩ => by subst hr_; exact ⟨hv_, H.via H_⟩) ?_
 intro w58z H
 refine g_val (!((!r7) || (!r8))) (gy_f rfl) (fun hg => x_not (b := r9) (gd_of (c := !((!r7) || (!r8))) hg (B r9))) ?_
 refine s_val (x_por (b := ((!r7) || (!r8))) (r := !r9) rfl rfl (fun hb => gd_of (c := !((!r7) || (!r8))) (by first | exact hb | (rw [hb]; rfl) | simp_all) (B (!r9)))) ?_
 refine s_val (x_as (v := B (((!r7) || (!r8)) || (!r9))) rfl) ?_
 refine s_nil ?_
 refine WD.cond (((!r7) || (!r8)) || (!r9)) rfl (fun c59z => ?_) (fun c59z => ?_)
 ·replace hM := M.e_t hM c59z
  refine WD.seq ?_
  refine WD.of ?_
  refine W.region rfl ?_
  refine s_val (x_as (v := I 130) rfl) ?_
  refine s_nil ?_
  replace H := H.pk [2]
  refine WD.of ?_
  refine W.ret ?_
  refine bodyD_r (H.pk [0]) ?_
  intro w60z H
  replace H := H.nf
  have hr_ := M.e_pure hM
  exact ⟨_, resE_tmp rfl, ⟨130, hr_, rfl, H⟩⟩
 replace hM := M.e_f hM c59z
 refine WD.of ?_
 refine W.skip ?_
 refine WD.seq ?_
 refine WD.seq ?_
 refine WD.of ?_
 refine W.region rfl ?_
 refine s_val (x_fa (a := .pointer (some ⟨b_1, 0, none⟩)) (v := .pointer (some ⟨b_1, 6, none⟩)) rfl (fa_blk (o := 0) Fd29_5 Sz27)) ?_
 refine s_val (x_ld (p := .pointer (some ⟨b_1, 6, none⟩)) (v := v_r__Floods) rfl (ldb_sc Sc27 (H.blk (k := 1) rfl) rfl)) ?_
 have hl61z := (hs_r__Floods).len_le
 refine s_val (x_lenS T27.und rfl hs_r__Floods) ?_
 refine s_val (x_mv (v := I 0) rfl) ?_
 refine s_nil ?_
 refine WD.block ?_
 obtain ⟨ex62z, hi63z, hk64z⟩ := M.e_bind hM
 obtain ⟨m0_, hi63z⟩ := M.e_iter hi63z
 refine WD.loop (fun m Ds65z σ W => ∃ (s4 : Nat) (ρ : Env), σ = upds ρ [(1, .pointer (some ⟨b_1, 0, none⟩)), (95, v_r__Floods), (96, I (r__Floods.length : Int)), (97, I (s4 : Int))] /\ M.iterN (zav r__Down r__Travel r__Springs r__Towns r__Delay_Lo r__Delay_Hi r__Floods) m s4 = some ex62z /\ St w W [cBlk b_2 [I (r__Down.length : Int)] 3, cBlk b_1 [v_r__Down, v_r__Travel, v_r__Springs, v_r__Towns, I r__Delay_Lo, I r__Delay_Hi, v_r__Floods] 29, cMk Ds65z] R) ?_ ?_
 ·exact ⟨_, 0, _, upds_of _ _ ⟨rfl, rfl, rfl, rfl, trivial⟩, hi63z, H⟩
 rintro m68z Ds65z σ w66z ⟨s4, ρ, rfl, hI67z, H⟩
 obtain ⟨m69z, lt70z, x71z, hM, hN72z⟩ := M.e_iterN hI67z
 simp only [zav] at hM
 clear hI67z
 refine WD.seq ?_
 refine WD.of ?_
 refine W.region rfl ?_
 refine s_val (x_cmp (kd := .i64) (a := (s4 : Int)) (b := (r__Floods.length : Int)) (r := decide ((s4 : Int) < (r__Floods.length : Int))) rfl rfl rfl) ?_
 refine s_nil ?_
 refine WD.seq ?_
 refine WD.cond (decide ((s4 : Int) < (r__Floods.length : Int))) rfl (fun c73z => ?_) (fun c73z => ?_)
 ·replace hM := M.e_t hM c73z
  simp only [decide_eq_true_eq, decide_eq_false_iff_not, beq_iff_eq, bne_iff_ne, beq_eq_false_iff_ne, bne_eq_false_iff_eq, ne_eq, Decidable.not_not] at c73z
  refine WD.of ?_
  refine W.skip ?_
  refine WD.seq ?_
  refine WD.block ?_
  refine WD.seq ?_
  refine WD.of ?_
  refine W.region rfl ?_
  obtain ⟨sd74z, hM⟩ := M.e_grd hM
  simp only [Bool.and_eq_true, decide_eq_true_eq] at sd74z
  refine s_val (x_ix (a := v_r__Floods) (b := I (s4 : Int)) (v := vat v_r__Floods 2 (Int.toNat (s4 : Int))) rfl rfl (Sl.ix (α := Flood) T27.und T27.size hs_r__Floods (by omega) (by omega))) ?_
  obtain ⟨u75z, ha77z, hs76z⟩ := Flood_atA hs_r__Floods (i := (s4 : Int)) (by omega) (by omega)
  replace hs76z : Sl _ u75z (r__Floods.getD s4 default).stages := hs76z
  have hl_hs76z := hs76z.len_le
  refine s_val (x_ld (p := vat v_r__Floods 2 (Int.toNat (s4 : Int))) (v := .agg #[I ((r__Floods.getD s4 default).spring), u75z]) rfl (ld_ag Ag85 Sz85 (At.mono ha77z (hC_r__Floods.at H)))) ?_
  refine t_alloc (cs := [I 0, .slice none 0 0]) H Al85 rfl ?_
  intro b_3 w78z H
  refine t_sw 0 0 [I ((r__Floods.getD s4 default).spring), u75z] (.agg #[I ((r__Floods.getD s4 default).spring), u75z]) H rfl rfl Sz85 rfl rfl rfl (by simp only [List.all_cons, List.all_nil, Bool.true_and, Bool.and_true, Sl.oc hs76z]; try rfl) ?_
  intro w79z H
  refine s_nil ?_
  refine WD.seq ?_
  refine WD.of ?_
  refine W.region rfl ?_
  refine t_alloc (cs := [I 0]) H Al3 rfl ?_
  intro b_4 w80z H
  refine t_sw 0 0 [I 0] (I 0) H rfl rfl Sz3 rfl rfl rfl rfl ?_
  intro w81z H
  refine s_nil ?_
  refine WD.seq ?_
  refine WD.seq ?_
  refine WD.of ?_
  refine W.region rfl ?_
  refine s_val (x_ld (p := .pointer (some ⟨b_1, 0, none⟩)) (v := .agg #[v_r__Down, v_r__Travel, v_r__Springs, v_r__Towns, I r__Delay_Lo, I r__Delay_Hi, v_r__Floods]) rfl (ldb_ag (ds := [v_r__Down, v_r__Travel, v_r__Springs, v_r__Towns, I r__Delay_Lo, I r__Delay_Hi, v_r__Floods]) Ag29 Sz29 (H.blk (k := 3) rfl) rfl rfl)) ?_
  refine s_val (x_fa (a := .pointer (some ⟨b_3, 0, none⟩)) (v := .pointer (some ⟨b_3, 0, none⟩)) rfl (fa_blk (o := 0) Fd85_0 Sz3)) ?_
  refine s_val (x_ld (p := .pointer (some ⟨b_3, 0, none⟩)) (v := I ((r__Floods.getD s4 default).spring)) rfl (ldb_sc Sc3 (H.blk (k := 1) rfl) rfl)) ?_
  refine s_val (x_max (kd := .i64) (a := 0) (b := (r__Floods.getD s4 default).spring) rfl rfl) ?_
  obtain ⟨r83z, hx82z, hM⟩ := M.e_bind hM
  refine s_call cf66 [.agg #[v_r__Down, v_r__Travel, v_r__Springs, v_r__Towns, I r__Delay_Lo, I r__Delay_Hi, v_r__Floods], I (max 0 ((r__Floods.getD s4 default).spring))] rfl (za2 r__Down r__Travel r__Springs r__Towns r__Delay_Lo r__Delay_Hi r__Floods (max 0 ((r__Floods.getD s4 default).spring)) (hC_r__Down.app _) hs_r__Down (hC_r__Travel.app _) hs_r__Travel (hC_r__Springs.app _) hs_r__Springs (hC_r__Towns.app _) hs_r__Towns (hC_r__Floods.app _) hs_r__Floods hx82z _ (H.gt 5)) ?_
  rintro vq w84z ⟨r00, r14, r15, nb0_5, nb1_6, hr85z, hvq, H2_⟩
  subst hr85z
  subst vq
  try dsimp only at hM
  replace H := H.bk H2_
  clear H2_
  refine s_nil ?_
  refine WD.block ?_
  obtain ⟨t86z, hx87z, hM⟩ := M.e_bind hM
  refine WD.range (L := [cBlk b_4 [I 0] 3, cBlk nb1_6 [v_r__Down, v_r__Travel, v_r__Springs, v_r__Towns, I r14, I r15, v_r__Floods] 29, cBlk b_3 [I ((r__Floods.getD s4 default).spring), u75z] 85, cBlk b_2 [I (r__Down.length : Int)] 3, cBlk b_1 [v_r__Down, v_r__Travel, v_r__Springs, v_r__Towns, I r__Delay_Lo, I r__Delay_Hi, v_r__Floods] 29, cBlk nb0_5 [I r00] 3]) [.pointer (some ⟨nb0_5, 0, none⟩), .pointer (some ⟨nb1_6, 0, none⟩)] (H.pk [6, 2, 1, 3, 4, 5, 0]) rfl cf96 ?_
  intro l88z D89z r90z w91z hr92z H
  have hYC : YieldC Tryz.prog ([cMk (D89z :: Ds65z), cBlk nb1_6 [v_r__Down, v_r__Travel, v_r__Springs, v_r__Towns, I r14, I r15, v_r__Floods] 29, cBlk b_3 [I ((r__Floods.getD s4 default).spring), u75z] 85, cBlk b_2 [I (r__Down.length : Int)] 3, cBlk b_1 [v_r__Down, v_r__Travel, v_r__Springs, v_r__Towns, I r__Delay_Lo, I r__Delay_Hi, v_r__Floods] 29] ++ R) arII (yJ l88z r90z (fun s3 Ls_ => Ls_ = [cBlk b_4 [I s3] 3]) (fun (_ : Unit) _ => False) (fun _ => .ret)) (.func (.yield l88z) #[] #[]) (M.yl zap) := by
   refine YieldC.mk hr92z (fun s3 Ls_ => Ls_ = [cBlk b_4 [I s3] 3]) (fun (_ : Unit) _ => False) (fun _ => .ret) zap (by rintro s3 _ h_; obtain ⟨rfl⟩ := h_; rfl) (fun _ _ h_ => h_.elim) rfl (arII_len rfl) ?_
   intro C_ vs_ x_ W_ hA_
   obtain ⟨x, x2⟩ := x_
   obtain rfl := hA_
   refine W.skip ?_
   refine ⟨rfl, rfl, ?_⟩
   intro w R hR_ Ls_ s_ r hY_ hM H
   skip
   obtain ⟨s3, hs_eq_⟩ : ∃ y_, y_ = s_ := ⟨_, rfl⟩
   subst hs_eq_
   obtain ⟨rfl⟩ := hY_
   replace hC_r__Down := hC_r__Down.sub hR_
   replace hC_r__Travel := hC_r__Travel.sub hR_
   replace hC_r__Springs := hC_r__Springs.sub hR_
   replace hC_r__Towns := hC_r__Towns.sub hR_
   replace hC_r__Floods := hC_r__Floods.sub hR_
   replace hM : (zap s3 (x, x2)).Ends r := hM
   simp only [zap] at hM
   replace H := H.pk [0, 2, 3, 4, 5, 1]
   refine W.block ?_
   refine W.region rfl ?_
   refine s_val (x_ld (p := .pointer (some ⟨b_4, 0, none⟩)) (v := I s3) rfl (ldb_sc Sc3 (H.blk (k := 0) rfl) rfl)) ?_
   obtain ⟨sd93z, hM⟩ := M.e_grd hM
   simp only [Bool.and_eq_true, decide_eq_true_eq] at sd93z
   refine s_val (x_ari (a := s3) (b := 1) (r := s3 + 1) rfl rfl rfl (by omega)) ?_
   refine t_sw 0 0 [I (s3 + 1)] (I (s3 + 1)) H rfl rfl Sz3 rfl rfl rfl rfl ?_
   intro w94z H
   refine s_nil ?_
   exact ⟨s3 + 1, [cBlk b_4 [I (s3 + 1)] 3], (M.e_pure hM).symm, rfl, H.pick [0, 5, 1, 2, 3, 4] (by decide) rfl⟩
  replace H : St w w91z (cAll (cObj l88z (.loop r90z) :: [cBlk b_4 [I 0] 3]) :: [cBlk nb0_5 [I r00] 3, cMk (D89z :: Ds65z), cBlk nb1_6 [v_r__Down, v_r__Travel, v_r__Springs, v_r__Towns, I r14, I r15, v_r__Floods] 29, cBlk b_3 [I ((r__Floods.getD s4 default).spring), u75z] 85, cBlk b_2 [I (r__Down.length : Int)] 3, cBlk b_1 [v_r__Down, v_r__Travel, v_r__Springs, v_r__Towns, I r__Delay_Lo, I r__Delay_Hi, v_r__Floods] 29]) R := St.bundleB (A := cObj l88z (.loop r90z) :: [cBlk b_4 [I 0] 3]) (T := [cBlk nb0_5 [I r00] 3, cMk (D89z :: Ds65z), cBlk nb1_6 [v_r__Down, v_r__Travel, v_r__Springs, v_r__Towns, I r14, I r15, v_r__Floods] 29, cBlk b_3 [I ((r__Floods.getD s4 default).spring), u75z] 85, cBlk b_2 [I (r__Down.length : Int)] 3, cBlk b_1 [v_r__Down, v_r__Travel, v_r__Springs, v_r__Towns, I r__Delay_Lo, I r__Delay_Hi, v_r__Floods] 29]) rfl (H.pk [0, 2, 7, 1, 3, 4, 5, 6])
  refine (za3 (M.yl zap) (.inl 0) r00 r__Down r__Travel r__Springs r__Towns r14 r15 r__Floods hYC ⟨_, rfl, rfl⟩ (hC_r__Down.app _) hs_r__Down (hC_r__Travel.app _) hs_r__Travel (hC_r__Springs.app _) hs_r__Springs (hC_r__Towns.app _) hs_r__Towns (hC_r__Floods.app _) hs_r__Floods (Has.here (k := 1) rfl) hx87z _ (H.gt 5)).mono ?_
  rintro vq w95z ⟨t99z, q0, Ls97z, hq100z, hvq, H2_, hY98z⟩
  subst hq100z
  replace H := H.back H2_ rfl
  clear H2_ hYC
  rcases t99z with s3 | _
  ·try dsimp only at hM
   obtain ⟨_, rfl, rfl⟩ := hY98z
   refine ⟨_, [cBlk b_4 [I s3] 3, cBlk nb1_6 [v_r__Down, v_r__Travel, v_r__Springs, v_r__Towns, I r14, I r15, v_r__Floods] 29, cBlk b_3 [I ((r__Floods.getD s4 default).spring), u75z] 85, cBlk b_2 [I (r__Down.length : Int)] 3, cBlk b_1 [v_r__Down, v_r__Travel, v_r__Springs, v_r__Towns, I r__Delay_Lo, I r__Delay_Hi, v_r__Floods] 29, cBlk nb0_5 [I q0] 3], H.unbundle.pick [0, 3, 1, 4, 5, 6, 7, 2] (by decide) rfl, hr92z.nb, ?_⟩
   intro w96z H
   rw [hr92z.pd]
   replace H := H.nf
   try simp only []
   replace H := H.pk [0, 1, 3, 4, 5]
   refine WD.block ?_
   refine WD.seq ?_
   refine WD.of ?_
   refine W.region rfl ?_
   refine s_val (x_fa (a := .pointer (some ⟨b_1, 0, none⟩)) (v := .pointer (some ⟨b_1, 2, none⟩)) rfl (fa_blk (o := 0) Fd29_2 Sz22)) ?_
   refine s_val (x_ld (p := .pointer (some ⟨b_1, 2, none⟩)) (v := v_r__Springs) rfl (ldb_sc Sc22 (H.blk (k := 4) rfl) rfl)) ?_
   refine s_val (x_fa (a := .pointer (some ⟨b_3, 0, none⟩)) (v := .pointer (some ⟨b_3, 0, none⟩)) rfl (fa_blk (o := 0) Fd85_0 Sz3)) ?_
   refine s_val (x_ld (p := .pointer (some ⟨b_3, 0, none⟩)) (v := I ((r__Floods.getD s4 default).spring)) rfl (ldb_sc Sc3 (H.blk (k := 2) rfl) rfl)) ?_
   obtain ⟨r102z, hx101z, hM⟩ := M.e_bind hM
   refine s_call cf67 [v_r__Springs, I ((r__Floods.getD s4 default).spring)] rfl (zdB r__Springs ((r__Floods.getD s4 default).spring) (hC_r__Springs.app _) hs_r__Springs hx101z _ (H.gt 5)) ?_
   rintro vq w103z ⟨r10, hr104z, hvq, H2_⟩
   subst hr104z
   subst vq
   try dsimp only at hM
   replace H := H.bk H2_
   clear H2_
   refine s_val (x_not (b := r10) rfl) ?_
   refine s_val (x_mv (v := B (!r10)) rfl) ?_
   refine g_val (!(!r10)) (gy_f rfl) (fun hg => x_fa (a := .pointer (some ⟨b_3, 0, none⟩)) (v := .pointer (some ⟨b_3, 1, none⟩)) rfl (fa_blk (o := 0) Fd85_1 Sz22)) ?_
   refine g_val (!(!r10)) (gy_f rfl) (fun hg => x_ld (p := .pointer (some ⟨b_3, 1, none⟩)) (v := u75z) (gd_of (c := !(!r10)) hg (.pointer (some ⟨b_3, 1, none⟩))) (ldb_sc Sc22 (H.blk (k := 2) rfl) rfl)) ?_
   have hl105z := (hs76z).len_le
   refine g_val (!(!r10)) (gy_f rfl) (fun hg => x_lenS T22.und (gd_of (c := !(!r10)) hg (u75z)) hs76z) ?_
   refine g_val (!(!r10)) (gy_f rfl) (fun hg => x_ld (p := .pointer (some ⟨b_4, 0, none⟩)) (v := I s3) rfl (ldb_sc Sc3 (H.blk (k := 1) rfl) rfl)) ?_
   refine g_val (!(!r10)) (gy_f rfl) (fun hg => x_cmp (kd := .i64) (a := (((r__Floods.getD s4 default).stages).length : Int)) (b := s3) (r := (((r__Floods.getD s4 default).stages).length : Int) != s3) (gd_of (c := !(!r10)) hg (I (((r__Floods.getD s4 default).stages).length : Int))) (gd_of (c := !(!r10)) hg (I s3)) rfl) ?_
   refine s_val (x_por (b := !r10) (r := (((r__Floods.getD s4 default).stages).length : Int) != s3) rfl rfl (fun hb => gd_of (c := !(!r10)) (by first | exact hb | (rw [hb]; rfl) | simp_all) (B ((((r__Floods.getD s4 default).stages).length : Int) != s3)))) ?_
   refine s_val (x_as (v := B ((!r10) || ((((r__Floods.getD s4 default).stages).length : Int) != s3))) rfl) ?_
   refine s_nil ?_
   refine WD.cond ((!r10) || ((((r__Floods.getD s4 default).stages).length : Int) != s3)) rfl (fun c106z => ?_) (fun c106z => ?_)
   ·replace hM := M.e_t hM c106z
    refine WD.seq ?_
    refine WD.of ?_
    refine W.region rfl ?_
    refine s_val (x_as (v := I 2) rfl) ?_
    refine s_nil ?_
    replace H := H.pk [0, 3, 4]
    refine WD.of ?_
    refine W.ret ?_
    have hX107z := M.e_inr hM hN72z
    subst hX107z
    replace hM := hk64z
    try dsimp only at hM
    refine bodyD_r (H.pk [0, 1, 2]) ?_
    intro w108z H
    replace H := H.nf
    have hr_ := M.e_pure hM
    exact ⟨_, resE_tmp rfl, ⟨2, hr_, rfl, (H.pk [])⟩⟩
   replace hM := M.e_f hM c106z
   refine WD.seq ?_
   refine WD.of ?_
   refine W.region rfl ?_
   refine s_val (x_fa (a := .pointer (some ⟨b_3, 0, none⟩)) (v := .pointer (some ⟨b_3, 1, none⟩)) rfl (fa_blk (o := 0) Fd85_1 Sz22)) ?_
   refine s_val (x_ld (p := .pointer (some ⟨b_3, 1, none⟩)) (v := u75z) rfl (ldb_sc Sc22 (H.blk (k := 2) rfl) rfl)) ?_
   obtain ⟨r110z, hx109z, hM⟩ := M.e_bind hM
   refine s_call cf53 [u75z, .func (.func 68) #[] #[]] rfl (zcU ((r__Floods.getD s4 default).stages) (fun xqz => zax xqz) (hC_r__Floods.app _) hs76z ⟨68, [], rfl, cf68, fun wqz Lqz Cqz vqz xqz bqz hsqz hCqz hAqz hpqz => by obtain rfl := Arg.int hAqz; exact (zcX xqz hpqz wqz (St.refl hsqz)).mono fun vqz wqz ⟨yqz, hrqz, hvqz, Hqz⟩ => by subst hrqz; exact ⟨hvqz, Hqz⟩⟩ hx109z _ (H.gt 5)) ?_
   rintro vq w111z ⟨r11, hr112z, hvq, H2_⟩
   subst hr112z
   subst vq
   try dsimp only at hM
   replace H := H.bk H2_
   clear H2_
   refine s_val (x_not (b := r11) rfl) ?_
   refine s_val (x_as (v := B (!r11)) rfl) ?_
   refine s_nil ?_
   refine WD.cond (!r11) rfl (fun c113z => ?_) (fun c113z => ?_)
   ·replace hM := M.e_t hM c113z
    refine WD.seq ?_
    refine WD.of ?_
    refine W.region rfl ?_
    refine s_val (x_as (v := I 130) rfl) ?_
    refine s_nil ?_
    replace H := H.pk [0, 3, 4]
    refine WD.of ?_
    refine W.ret ?_
    have hX114z := M.e_inr hM hN72z
    subst hX114z
    replace hM := hk64z
    try dsimp only at hM
    refine bodyD_r (H.pk [0, 1, 2]) ?_
    intro w115z H
    replace H := H.nf
    have hr_ := M.e_pure hM
    exact ⟨_, resE_tmp rfl, ⟨130, hr_, rfl, (H.pk [])⟩⟩
   replace hM := M.e_f hM c113z
   refine WD.of ?_
   refine W.skip ?_
   refine WD.of ?_
   refine W.region rfl ?_
   refine s_val (x_ari (a := (s4 : Int)) (b := 1) (r := (s4 : Int) + 1) rfl rfl rfl (by omega)) ?_
   refine s_val (x_mv (v := I ((s4 : Int) + 1)) rfl) ?_
   refine s_nil ?_
   exact ⟨m69z, lt70z, s4 + 1, _, upds_of _ _ ⟨rfl, rfl, rfl, rfl, trivial⟩, M.e_inl hM hN72z, (H.pk [3, 4, 0])⟩
  obtain ⟨_, _, h_⟩ := hY98z; exact h_.elim
 replace hM := M.e_f hM c73z
 simp only [decide_eq_true_eq, decide_eq_false_iff_not, beq_iff_eq, bne_iff_ne, beq_eq_false_iff_ne, bne_eq_false_iff_eq, ne_eq, Decidable.not_not] at c73z
 refine WD.of ?_
 refine W.exit ?_
 have hX116z := M.e_inr hM hN72z
 subst hX116z
 replace hM := hk64z
 try dsimp only at hM
 replace H := H.pk [2]
 refine WD.seq ?_
 refine WD.of ?_
 refine W.region rfl ?_
 refine s_val (x_as (v := I 0) rfl) ?_
 refine s_nil ?_
 refine WD.of ?_
 refine W.ret ?_
 refine bodyD_r (H.pk [0]) ?_
 intro w117z H
 replace H := H.nf
 have hr_ := M.e_pure hM
 exact ⟨_, resE_tmp rfl, ⟨0, hr_, rfl, H⟩⟩

def zal (r__Down : List Int) (r__Travel : List Span) (r__Springs : List Int) (r__Towns : List Town) (r__Delay_Lo : Int) (r__Delay_Hi : Int) (r__Floods : List Flood) : M (Int ⊕ (Int × Int × Int)) :=
  M.bind (zaq r__Down r__Travel r__Springs r__Towns r__Delay_Lo r__Delay_Hi r__Floods) fun r2 =>
  bif r2 != 0 then (
  M.pure (.inl r2))
  else (
  M.pure (.inr (r__Delay_Lo, r__Delay_Hi, 0)))
theorem zaS {R : List Chunk} {C_r__Down : Cells} {v_r__Down : Value} {C_r__Travel : Cells} {v_r__Travel : Value} {C_r__Springs : Cells} {v_r__Springs : Value} {C_r__Towns : Cells} {v_r__Towns : Value} {C_r__Floods : Cells} {v_r__Floods : Value} (r__Down : List Int) (r__Travel : List Span) (r__Springs : List Int) (r__Towns : List Town) (r__Delay_Lo : Int) (r__Delay_Hi : Int) (r__Floods : List Flood) (hC_r__Down : Reads R C_r__Down) (hs_r__Down : Sl C_r__Down v_r__Down r__Down) (hC_r__Travel : Reads R C_r__Travel) (hs_r__Travel : Sl C_r__Travel v_r__Travel r__Travel) (hC_r__Springs : Reads R C_r__Springs) (hs_r__Springs : Sl C_r__Springs v_r__Springs r__Springs) (hC_r__Towns : Reads R C_r__Towns) (hs_r__Towns : Sl C_r__Towns v_r__Towns r__Towns) (hC_r__Floods : Reads R C_r__Floods) (hs_r__Floods : Sl C_r__Floods v_r__Floods r__Floods) {r : (Int ⊕ (Int × Int × Int))} (hM : (zal r__Down r__Travel r__Springs r__Towns r__Delay_Lo r__Delay_Hi r__Floods).Ends r) (w : World) (H : St w w [] R) : Ret Tryz.prog 72 #[.agg #[v_r__Down, v_r__Travel, v_r__Springs, v_r__Towns, I r__Delay_Lo, I r__Delay_Hi, v_r__Floods]] w fun v w' => (∃ (y0 : Int), (.inl y0) = r /\ v = .tuple #[.pointer none, I y0] /\ St w w' [] R) ∨ (∃ (y0 : Int) (y1 : Int) (y2 : Int) (nb0 : Nat) (nb1 : Nat) (Bs2 : Base), (.inr (y0, y1, y2)) = r /\ v = .tuple #[.pointer (some ⟨nb0, 0, none⟩), I y2] /\ St w w' [cBlk nb0 [v_r__Down, v_r__Travel, v_r__Springs, v_r__Towns, I y0, I y1, v_r__Floods, .map (some nb1)] 111, cMem encDm nb1 Bs2 (zaa r__Down r__Travel r__Springs r__Towns y0 y1 r__Floods)] R) := by
 refine ret_of_W Tryz.func72 rfl rfl rfl ?_
 refine W.seq ?_
 refine W.region rfl ?_
 refine t_box (v := .agg #[v_r__Down, v_r__Travel, v_r__Springs, v_r__Towns, I r__Delay_Lo, I r__Delay_Hi, v_r__Floods]) (cs := [v_r__Down, v_r__Travel, v_r__Springs, v_r__Towns, I r__Delay_Lo, I r__Delay_Hi, v_r__Floods]) H rfl rfl ?_
 intro b_1 w1z H
 refine s_val (x_as (v := .pointer none) rfl) ?_
 refine s_val (x_as (v := I 0) rfl) ?_
 refine s_nil ?_
 refine W.seq ?_
 refine W.seq ?_
 refine W.region rfl ?_
 refine s_val (x_ld (p := .pointer (some ⟨b_1, 0, none⟩)) (v := .agg #[v_r__Down, v_r__Travel, v_r__Springs, v_r__Towns, I r__Delay_Lo, I r__Delay_Hi, v_r__Floods]) rfl (ldb_ag (ds := [v_r__Down, v_r__Travel, v_r__Springs, v_r__Towns, I r__Delay_Lo, I r__Delay_Hi, v_r__Floods]) Ag29 Sz29 (H.blk (k := 0) rfl) rfl rfl)) ?_
 obtain ⟨r3z, hx2z, hM⟩ := M.e_bind hM
 refine s_call cf19 [.agg #[v_r__Down, v_r__Travel, v_r__Springs, v_r__Towns, I r__Delay_Lo, I r__Delay_Hi, v_r__Floods]] rfl (zcQ r__Down r__Travel r__Springs r__Towns r__Delay_Lo r__Delay_Hi r__Floods (hC_r__Down.app _) hs_r__Down (hC_r__Travel.app _) hs_r__Travel (hC_r__Springs.app _) hs_r__Springs (hC_r__Towns.app _) hs_r__Towns (hC_r__Floods.app _) hs_r__Floods hx2z _ (H.gt 1)) ?_
 rintro vq w4z ⟨r2, hr5z, hvq, H2_⟩
 subst hr5z
 subst vq
 try dsimp only at hM
 replace H := H.bk H2_
 clear H2_
 refine s_val (x_as (v := I r2) rfl) ?_
 refine s_nil ?_
 refine W.seq ?_
 refine W.region rfl ?_
 refine s_val (x_mv (v := I r2) rfl) ?_
 refine s_val (x_cmp (kd := .i64) (a := r2) (b := 0) (r := r2 != 0) rfl rfl rfl) ?_
 refine s_nil ?_
 refine W.cond (r2 != 0) rfl (fun c6z => ?_) (fun c6z => ?_)
 ·replace hM := M.e_t hM c6z
  simp only [decide_eq_true_eq, decide_eq_false_iff_not, beq_iff_eq, bne_iff_ne, beq_eq_false_iff_ne, bne_eq_false_iff_eq, ne_eq, Decidable.not_not] at c6z
  refine W.seq ?_
  refine W.region rfl ?_
  refine s_val (x_mv (v := I r2) rfl) ?_
  refine s_val (x_as (v := .pointer none) rfl) ?_
  refine s_val (x_as (v := I r2) rfl) ?_
  refine s_nil ?_
  refine W.ret ?_
  have hr_ := M.e_pure hM
  exact ⟨_, resE_tmp2 rfl, .inl (⟨r2, hr_, rfl, (H.pk [])⟩)⟩
 replace hM := M.e_f hM c6z
 simp only [decide_eq_true_eq, decide_eq_false_iff_not, beq_iff_eq, bne_iff_ne, beq_eq_false_iff_ne, bne_eq_false_iff_eq, ne_eq, Decidable.not_not] at c6z
 refine W.skip ?_
 refine W.seq ?_
 refine W.region rfl ?_
 refine s_val (x_ld (p := .pointer (some ⟨b_1, 0, none⟩)) (v := .agg #[v_r__Down, v_r__Travel, v_r__Springs, v_r__Towns, I r__Delay_Lo, I r__Delay_Hi, v_r__Floods]) rfl (ldb_ag (ds := [v_r__Down, v_r__Travel, v_r__Springs, v_r__Towns, I r__Delay_Lo, I r__Delay_Hi, v_r__Floods]) Ag29 Sz29 (H.blk (k := 0) rfl) rfl rfl)) ?_
 refine t_mkmem encDm (zaa r__Down r__Travel r__Springs r__Towns r__Delay_Lo r__Delay_Hi r__Floods) H ?_
 intro b_2 Bm_3 w7z H
 refine s_val (x_bld (ps := [(0, .agg #[v_r__Down, v_r__Travel, v_r__Springs, v_r__Towns, I r__Delay_Lo, I r__Delay_Hi, v_r__Floods]), (1, .map (some b_2))]) (zs := [.slice none 0 0, .slice none 0 0, .slice none 0 0, .slice none 0 0, I 0, I 0, .slice none 0 0, .map none]) (L' := [v_r__Down, v_r__Travel, v_r__Springs, v_r__Towns, I r__Delay_Lo, I r__Delay_Hi, v_r__Floods, .map (some b_2)]) rfl Tryz.underlying111 Al111 rfl (Bd111 Tryz.underlying111) (.cons (cs := [v_r__Down, v_r__Travel, v_r__Springs, v_r__Towns, I r__Delay_Lo, I r__Delay_Hi, v_r__Floods]) rfl rfl rfl rfl rfl <| .cons (cs := [.map (some b_2)]) rfl rfl rfl rfl rfl <| .nil)) ?_
 refine t_box (v := .agg #[v_r__Down, v_r__Travel, v_r__Springs, v_r__Towns, I r__Delay_Lo, I r__Delay_Hi, v_r__Floods, .map (some b_2)]) (cs := [v_r__Down, v_r__Travel, v_r__Springs, v_r__Towns, I r__Delay_Lo, I r__Delay_Hi, v_r__Floods, .map (some b_2)]) H rfl rfl ?_
 intro b_4 w8z H
 refine s_val (x_as (v := .pointer (some ⟨b_4, 0, none⟩)) rfl) ?_
 refine s_val (x_as (v := I 0) rfl) ?_
 refine s_nil ?_
 refine W.ret ?_
 have hr_ := M.e_pure hM
 exact ⟨_, resE_tmp2 rfl, .inr (⟨r__Delay_Lo, r__Delay_Hi, 0, b_4, b_2, Bm_3, hr_, rfl, (H.pk [0, 1])⟩)⟩

def zb7 (w__River_Down : List Int) (w__River_Travel : List Span) (w__River_Springs : List Int) (w__River_Towns : List Town) (w__River_Delay_Lo : Int) (w__River_Delay_Hi : Int) (w__River_Floods : List Flood) (s2 : Nat) : (Nat × (List Dem)) -> M ((Nat × (List Dem)) ⊕ ((List Dem) × (List Dem))) := fun (s, l4) =>
  bif decide ((s : Int) < (w__River_Towns.length : Int)) then (
  M.grd (decide ((s : Int) < (w__River_Towns.length : Int))) <|
  M.bind (zat w__River_Down w__River_Travel w__River_Springs w__River_Towns w__River_Delay_Lo w__River_Delay_Hi w__River_Floods (w__River_Springs.getD s2 0) ((w__River_Towns.getD s default).station)) fun (r00, r01, r1) =>
  bif r1 then (
  M.grd (decide ((l4.length + ([(⟨(w__River_Springs.getD s2 0 : Int), (s : Int)⟩ : Dem)]).length) * 16 <= 140737488355328)) <|
  M.pure (.inl (s + 1, l4 ++ ([(⟨(w__River_Springs.getD s2 0 : Int), (s : Int)⟩ : Dem)]))))
  else (
  M.pure (.inl (s + 1, l4))))
  else (
  M.pure (.inr (l4, l4)))
def zbV (w__River_Down : List Int) (w__River_Travel : List Span) (w__River_Springs : List Int) (w__River_Towns : List Town) (w__River_Delay_Lo : Int) (w__River_Delay_Hi : Int) (w__River_Floods : List Flood) : (Nat × (List Dem)) -> M ((Nat × (List Dem)) ⊕ ((List Dem) × (List Dem))) := fun (s2, l6) =>
  bif decide ((s2 : Int) < (w__River_Springs.length : Int)) then (
  M.grd (decide ((s2 : Int) < (w__River_Springs.length : Int))) <|
  M.bind (M.iter (zb7 w__River_Down w__River_Travel w__River_Springs w__River_Towns w__River_Delay_Lo w__River_Delay_Hi w__River_Floods s2) (0, l6)) fun (l2, l5) =>
  M.pure (.inl (s2 + 1, l5)))
  else (
  M.pure (.inr (l6, l6)))
def zbT (w__River_Down : List Int) (w__River_Travel : List Span) (w__River_Springs : List Int) (w__River_Towns : List Town) (w__River_Delay_Lo : Int) (w__River_Delay_Hi : Int) (w__River_Floods : List Flood) : M (List Dem) :=
  M.bind (M.iter (zbV w__River_Down w__River_Travel w__River_Springs w__River_Towns w__River_Delay_Lo w__River_Delay_Hi w__River_Floods) (0, [])) fun (l7, l8) =>
  M.pure l8
theorem zcH {R : List Chunk} {b_w_ : Nat} {C_w__River_Down : Cells} {v_w__River_Down : Value} {C_w__River_Travel : Cells} {v_w__River_Travel : Value} {C_w__River_Springs : Cells} {v_w__River_Springs : Value} {C_w__River_Towns : Cells} {v_w__River_Towns : Value} {C_w__River_Floods : Cells} {v_w__River_Floods : Value} {b_w__found : Nat} (w__River_Down : List Int) (w__River_Travel : List Span) (w__River_Springs : List Int) (w__River_Towns : List Town) (w__River_Delay_Lo : Int) (w__River_Delay_Hi : Int) (w__River_Floods : List Flood) (hC_w__River_Down : Reads R C_w__River_Down) (hs_w__River_Down : Sl C_w__River_Down v_w__River_Down w__River_Down) (hC_w__River_Travel : Reads R C_w__River_Travel) (hs_w__River_Travel : Sl C_w__River_Travel v_w__River_Travel w__River_Travel) (hC_w__River_Springs : Reads R C_w__River_Springs) (hs_w__River_Springs : Sl C_w__River_Springs v_w__River_Springs w__River_Springs) (hC_w__River_Towns : Reads R C_w__River_Towns) (hs_w__River_Towns : Sl C_w__River_Towns v_w__River_Towns w__River_Towns) (hC_w__River_Floods : Reads R C_w__River_Floods) (hs_w__River_Floods : Sl C_w__River_Floods v_w__River_Floods w__River_Floods) (h_b_w_ : Has R (cBlk b_w_ [v_w__River_Down, v_w__River_Travel, v_w__River_Springs, v_w__River_Towns, I w__River_Delay_Lo, I w__River_Delay_Hi, v_w__River_Floods, .map (some b_w__found)] 111)) {r : (List Dem)} (hM : (zbT w__River_Down w__River_Travel w__River_Springs w__River_Towns w__River_Delay_Lo w__River_Delay_Hi w__River_Floods).Ends r) (w : World) (H : St w w [] R) : Ret Tryz.prog 77 #[.pointer (some ⟨b_w_, 0, none⟩)] w fun v w' => ∃ (y0 : List Dem) (u0 : Value), y0 = r /\ v = u0 /\ St w w' [cOwn (α := Dem) 61 u0 y0] R := by
 refine ret_of_W Tryz.func77 rfl rfl rfl ?_
 refine W.seq ?_
 refine W.region rfl ?_
 refine s_val (x_as (v := .slice none 0 0) rfl) ?_
 refine s_nil ?_
 refine W.seq ?_
 refine W.region rfl ?_
 refine s_val (x_as (v := .slice none 0 0) rfl) ?_
 refine s_nil ?_
 refine W.seq ?_
 refine W.seq ?_
 refine W.region rfl ?_
 refine s_val (x_mv (v := .pointer (some ⟨b_w_, 0, none⟩)) rfl) ?_
 refine s_val (x_nc (a := ⟨b_w_, 0, none⟩) rfl) ?_
 refine s_val (x_fa (a := .pointer (some ⟨b_w_, 0, none⟩)) (v := .pointer (some ⟨b_w_, 0, none⟩)) rfl (fa_blk (o := 0) Fd111_0 Sz29)) ?_
 refine s_val (x_fa (a := .pointer (some ⟨b_w_, 0, none⟩)) (v := .pointer (some ⟨b_w_, 2, none⟩)) rfl (fa_blk (o := 0) Fd29_2 Sz22)) ?_
 refine s_val (x_ld (p := .pointer (some ⟨b_w_, 2, none⟩)) (v := v_w__River_Springs) rfl (ldb_sc Sc22 (h_b_w_.blk H) rfl)) ?_
 have hl1z := (hs_w__River_Springs).len_le
 refine s_val (x_lenS T22.und rfl hs_w__River_Springs) ?_
 refine s_val (x_mv (v := I 0) rfl) ?_
 refine s_nil ?_
 refine W.block ?_
 replace H := H.nilOwn (α := Dem) 61
 obtain ⟨ex2z, hi3z, hk4z⟩ := M.e_bind hM
 obtain ⟨m0_, hi3z⟩ := M.e_iter hi3z
 refine W.loop (fun m σ W => ∃ (s2 : Nat) (l6 : List Dem) (v_l6 : Value) (ρ : Env), σ = upds ρ [(0, .pointer (some ⟨b_w_, 0, none⟩)), (3, v_l6), (14, v_w__River_Springs), (15, I (w__River_Springs.length : Int)), (16, I (s2 : Int))] /\ M.iterN (zbV w__River_Down w__River_Travel w__River_Springs w__River_Towns w__River_Delay_Lo w__River_Delay_Hi w__River_Floods) m (s2, l6) = some ex2z /\ St w W [cOwn (α := Dem) 61 v_l6 l6] R) ?_ ?_
 ·exact ⟨_, 0, [], (.slice none 0 0), _, upds_of _ _ ⟨rfl, rfl, rfl, rfl, rfl, trivial⟩, hi3z, H⟩
 rintro m7z σ w5z ⟨s2, l6, v_l6, ρ, rfl, hI6z, H⟩
 obtain ⟨m8z, lt9z, x10z, hM, hN11z⟩ := M.e_iterN hI6z
 simp only [zbV] at hM
 clear hI6z
 refine W.seq ?_
 refine W.region rfl ?_
 refine s_val (x_cmp (kd := .i64) (a := (s2 : Int)) (b := (w__River_Springs.length : Int)) (r := decide ((s2 : Int) < (w__River_Springs.length : Int))) rfl rfl rfl) ?_
 refine s_nil ?_
 refine W.seq ?_
 refine W.cond (decide ((s2 : Int) < (w__River_Springs.length : Int))) rfl (fun c12z => ?_) (fun c12z => ?_)
 ·replace hM := M.e_t hM c12z
  simp only [decide_eq_true_eq, decide_eq_false_iff_not, beq_iff_eq, bne_iff_ne, beq_eq_false_iff_ne, bne_eq_false_iff_eq, ne_eq, Decidable.not_not] at c12z
  refine W.skip ?_
  refine W.seq ?_
  refine W.block ?_
  refine W.seq ?_
  refine W.region rfl ?_
  obtain ⟨sd13z, hM⟩ := M.e_grd hM
  simp only [Bool.and_eq_true, decide_eq_true_eq] at sd13z
  refine s_val (x_ix (a := v_w__River_Springs) (b := I (s2 : Int)) (v := vat v_w__River_Springs 1 (Int.toNat (s2 : Int))) rfl rfl (Sl.ix (α := Int) T22.und T22.size hs_w__River_Springs (by omega) (by omega))) ?_
  refine s_val (x_ld (p := vat v_w__River_Springs 1 (Int.toNat (s2 : Int))) (v := I (w__River_Springs.getD s2 0)) rfl (ld_sc Sc3 (At.mono (Int_at hs_w__River_Springs (i := (s2 : Int)) (by omega) (by omega)) (hC_w__River_Springs.at H)))) ?_
  refine s_val (x_as (v := I (w__River_Springs.getD s2 0)) rfl) ?_
  refine s_nil ?_
  refine W.seq ?_
  refine W.region rfl ?_
  refine s_val (x_mv (v := .pointer (some ⟨b_w_, 0, none⟩)) rfl) ?_
  refine s_val (x_nc (a := ⟨b_w_, 0, none⟩) rfl) ?_
  refine s_val (x_fa (a := .pointer (some ⟨b_w_, 0, none⟩)) (v := .pointer (some ⟨b_w_, 0, none⟩)) rfl (fa_blk (o := 0) Fd111_0 Sz29)) ?_
  refine s_val (x_fa (a := .pointer (some ⟨b_w_, 0, none⟩)) (v := .pointer (some ⟨b_w_, 3, none⟩)) rfl (fa_blk (o := 0) Fd29_3 Sz24)) ?_
  refine s_val (x_ld (p := .pointer (some ⟨b_w_, 3, none⟩)) (v := v_w__River_Towns) rfl (ldb_sc Sc24 (h_b_w_.blk H) rfl)) ?_
  have hl14z := (hs_w__River_Towns).len_le
  refine s_val (x_lenS T24.und rfl hs_w__River_Towns) ?_
  refine s_val (x_mv (v := I 0) rfl) ?_
  refine s_nil ?_
  refine W.block ?_
  obtain ⟨ex15z, hi16z, hk17z⟩ := M.e_bind hM
  obtain ⟨m0_, hi16z⟩ := M.e_iter hi16z
  refine W.loop (fun m σ W => ∃ (s : Nat) (l4 : List Dem) (v_l4 : Value) (ρ : Env), σ = upds ρ [(0, .pointer (some ⟨b_w_, 0, none⟩)), (3, v_l4), (5, I (w__River_Springs.getD s2 0)), (14, v_w__River_Springs), (15, I (w__River_Springs.length : Int)), (16, I (s2 : Int)), (24, v_w__River_Towns), (25, I (w__River_Towns.length : Int)), (26, I (s : Int))] /\ M.iterN (zb7 w__River_Down w__River_Travel w__River_Springs w__River_Towns w__River_Delay_Lo w__River_Delay_Hi w__River_Floods s2) m (s, l4) = some ex15z /\ St w W [cOwn (α := Dem) 61 v_l4 l4] R) ?_ ?_
  ·exact ⟨_, 0, l6, v_l6, _, upds_of _ _ ⟨rfl, rfl, rfl, rfl, rfl, rfl, rfl, rfl, rfl, trivial⟩, hi16z, H⟩
  rintro m20z σ w18z ⟨s, l4, v_l4, ρ, rfl, hI19z, H⟩
  obtain ⟨m21z, lt22z, x23z, hM, hN24z⟩ := M.e_iterN hI19z
  simp only [zb7] at hM
  clear hI19z
  refine W.seq ?_
  refine W.region rfl ?_
  refine s_val (x_cmp (kd := .i64) (a := (s : Int)) (b := (w__River_Towns.length : Int)) (r := decide ((s : Int) < (w__River_Towns.length : Int))) rfl rfl rfl) ?_
  refine s_nil ?_
  refine W.seq ?_
  refine W.cond (decide ((s : Int) < (w__River_Towns.length : Int))) rfl (fun c25z => ?_) (fun c25z => ?_)
  ·replace hM := M.e_t hM c25z
   simp only [decide_eq_true_eq, decide_eq_false_iff_not, beq_iff_eq, bne_iff_ne, beq_eq_false_iff_ne, bne_eq_false_iff_eq, ne_eq, Decidable.not_not] at c25z
   refine W.skip ?_
   refine W.seq ?_
   refine W.block ?_
   refine W.seq ?_
   refine W.region rfl ?_
   refine s_val (x_mv (v := I (s : Int)) rfl) ?_
   obtain ⟨sd26z, hM⟩ := M.e_grd hM
   simp only [Bool.and_eq_true, decide_eq_true_eq] at sd26z
   refine s_val (x_ix (a := v_w__River_Towns) (b := I (s : Int)) (v := vat v_w__River_Towns 3 (Int.toNat (s : Int))) rfl rfl (Sl.ix (α := Town) T24.und T24.size hs_w__River_Towns (by omega) (by omega))) ?_
   refine s_val (x_ld (p := vat v_w__River_Towns 3 (Int.toNat (s : Int))) (v := .agg #[I ((w__River_Towns.getD s default).station), I ((w__River_Towns.getD s default).lead), I ((w__River_Towns.getD s default).alarm)]) rfl (ld_ag Ag91 Sz91 (At.mono (Town_atA hs_w__River_Towns (i := (s : Int)) (by omega) (by omega)) (hC_w__River_Towns.at H)))) ?_
   refine t_alloc (cs := [I 0, I 0, I 0]) H Al91 rfl ?_
   intro b_1 w27z H
   refine s_val (x_as (v := I (s : Int)) rfl) ?_
   refine t_sw 0 0 [I ((w__River_Towns.getD s default).station), I ((w__River_Towns.getD s default).lead), I ((w__River_Towns.getD s default).alarm)] (.agg #[I ((w__River_Towns.getD s default).station), I ((w__River_Towns.getD s default).lead), I ((w__River_Towns.getD s default).alarm)]) H rfl rfl Sz91 rfl rfl rfl rfl ?_
   intro w28z H
   refine s_nil ?_
   refine W.seq ?_
   refine W.region rfl ?_
   refine s_val (x_mv (v := .pointer (some ⟨b_w_, 0, none⟩)) rfl) ?_
   refine s_val (x_mv (v := I (w__River_Springs.getD s2 0)) rfl) ?_
   refine s_val (x_fa (a := .pointer (some ⟨b_1, 0, none⟩)) (v := .pointer (some ⟨b_1, 0, none⟩)) rfl (fa_blk (o := 0) Fd91_0 Sz3)) ?_
   refine s_val (x_ld (p := .pointer (some ⟨b_1, 0, none⟩)) (v := I ((w__River_Towns.getD s default).station)) rfl (ldb_sc Sc3 (H.blk (k := 0) rfl) rfl)) ?_
   obtain ⟨r30z, hx29z, hM⟩ := M.e_bind hM
   refine s_call cf74 [.pointer (some ⟨b_w_, 0, none⟩), I (w__River_Springs.getD s2 0), I ((w__River_Towns.getD s default).station)] rfl (zbB w__River_Down w__River_Travel w__River_Springs w__River_Towns w__River_Delay_Lo w__River_Delay_Hi w__River_Floods (w__River_Springs.getD s2 0) ((w__River_Towns.getD s default).station) (hC_w__River_Down.app _) hs_w__River_Down (hC_w__River_Travel.app _) hs_w__River_Travel (hC_w__River_Springs.app _) hs_w__River_Springs (hC_w__River_Towns.app _) hs_w__River_Towns (hC_w__River_Floods.app _) hs_w__River_Floods (h_b_w_.app _) hx29z _ (H.gt 2)) ?_
   rintro vq w31z ⟨r00, r01, r1, hr32z, hvq, H2_⟩
   subst hr32z
   subst vq
   try dsimp only at hM
   replace H := H.bk H2_
   clear H2_
   refine s_val (x_mv (v := .tuple #[.agg #[I r00, I r01], B r1]) rfl) ?_
   refine s_val (x_ext (vs := [.agg #[I r00, I r01], B r1]) (v := .agg #[I r00, I r01]) rfl rfl) ?_
   refine s_val (x_ext (vs := [.agg #[I r00, I r01], B r1]) (v := B r1) rfl rfl) ?_
   refine t_alloc (cs := [I 0, I 0]) H Al26 rfl ?_
   intro b_2 w33z H
   refine t_sw 0 0 [I r00, I r01] (.agg #[I r00, I r01]) H rfl rfl Sz26 rfl rfl rfl rfl ?_
   intro w34z H
   refine s_val (x_as (v := B r1) rfl) ?_
   refine s_nil ?_
   replace H := H.pk [2]
   refine W.seq ?_
   refine W.region rfl ?_
   refine s_val (x_mv (v := B r1) rfl) ?_
   refine s_nil ?_
   refine W.cond r1 rfl (fun c35z => ?_) (fun c35z => ?_)
   ·replace hM := M.e_t hM c35z
    refine W.region rfl ?_
    refine s_val (x_mv (v := v_l4) rfl) ?_
    refine s_val (x_mv (v := I (w__River_Springs.getD s2 0)) rfl) ?_
    refine s_val (x_mv (v := I (s : Int)) rfl) ?_
    refine s_val (x_bld (ps := [(0, I (w__River_Springs.getD s2 0)), (1, I (s : Int))]) (zs := [I 0, I 0]) (L' := [I (w__River_Springs.getD s2 0), I (s : Int)]) rfl Tryz.underlying61 Al61 rfl (Bd61 Tryz.underlying61) (.cons (cs := [I (w__River_Springs.getD s2 0)]) rfl rfl rfl rfl rfl <| .cons (cs := [I (s : Int)]) rfl rfl rfl rfl rfl <| .nil)) ?_
    refine t_bs (α := Dem) T62 [.agg #[I (w__River_Springs.getD s2 0), I (s : Int)]] [(⟨(w__River_Springs.getD s2 0 : Int), (s : Int)⟩ : Dem)] H rfl (.cons rfl (Flat.rep_enc _ (⟨(w__River_Springs.getD s2 0 : Int), (s : Int)⟩ : Dem)) <| .nil) rfl rfl rfl ?_
    intro v36z w37z H
    obtain ⟨sd38z, hM⟩ := M.e_grd hM
    simp only [Bool.and_eq_true, decide_eq_true_eq] at sd38z
    refine t_app (α := Dem) (k := 1) (l := l4) (l2 := [(⟨(w__River_Springs.getD s2 0 : Int), (s : Int)⟩ : Dem)]) (l' := l4 ++ ([(⟨(w__River_Springs.getD s2 0 : Int), (s : Int)⟩ : Dem)])) (vy := v36z) T62 rfl H rfl rfl rfl (ownSl (H.get (k := 0) rfl)) (ownLe _ (H.get (k := 0) rfl)) (rfl) (by first | omega | (simp only [List.length_nil] at *; omega)) ?_
    intro v39z w40z H
    replace H := H.nf
    refine s_val (x_as (v := v39z) rfl) ?_
    refine s_nil ?_
    refine W.region rfl ?_
    refine s_val (x_ari (a := (s : Int)) (b := 1) (r := (s : Int) + 1) rfl rfl rfl (by omega)) ?_
    refine s_val (x_mv (v := I ((s : Int) + 1)) rfl) ?_
    refine s_nil ?_
    exact ⟨m21z, lt22z, s + 1, l4 ++ ([(⟨(w__River_Springs.getD s2 0 : Int), (s : Int)⟩ : Dem)]), v39z, _, upds_of _ _ ⟨rfl, rfl, rfl, rfl, rfl, rfl, rfl, rfl, rfl, trivial⟩, M.e_inl hM hN24z, (H.pk [1])⟩
   replace hM := M.e_f hM c35z
   refine W.skip ?_
   refine W.region rfl ?_
   refine s_val (x_ari (a := (s : Int)) (b := 1) (r := (s : Int) + 1) rfl rfl rfl (by omega)) ?_
   refine s_val (x_mv (v := I ((s : Int) + 1)) rfl) ?_
   refine s_nil ?_
   exact ⟨m21z, lt22z, s + 1, l4, v_l4, _, upds_of _ _ ⟨rfl, rfl, rfl, rfl, rfl, rfl, rfl, rfl, rfl, trivial⟩, M.e_inl hM hN24z, H⟩
  replace hM := M.e_f hM c25z
  simp only [decide_eq_true_eq, decide_eq_false_iff_not, beq_iff_eq, bne_iff_ne, beq_eq_false_iff_ne, bne_eq_false_iff_eq, ne_eq, Decidable.not_not] at c25z
  refine W.exit ?_
  have hX41z := M.e_inr hM hN24z
  subst hX41z
  replace hM := hk17z
  try dsimp only at hM
  refine W.region rfl ?_
  refine s_val (x_ari (a := (s2 : Int)) (b := 1) (r := (s2 : Int) + 1) rfl rfl rfl (by omega)) ?_
  refine s_val (x_mv (v := I ((s2 : Int) + 1)) rfl) ?_
  refine s_nil ?_
  exact ⟨m8z, lt9z, s2 + 1, l4, v_l4, _, upds_of _ _ ⟨rfl, rfl, rfl, rfl, rfl, trivial⟩, M.e_inl hM hN11z, H⟩
 replace hM := M.e_f hM c12z
 simp only [decide_eq_true_eq, decide_eq_false_iff_not, beq_iff_eq, bne_iff_ne, beq_eq_false_iff_ne, bne_eq_false_iff_eq, ne_eq, Decidable.not_not] at c12z
 refine W.exit ?_
 have hX42z := M.e_inr hM hN11z
 subst hX42z
 replace hM := hk4z
 try dsimp only at hM
 refine W.seq ?_
 refine W.region rfl ?_
 refine s_val (x_mv (v := v_l6) rfl) ?_
 refine s_val (x_as (v := v_l6) rfl) ?_
 refine s_nil ?_
 refine W.ret ?_
 have hr_ := M.e_pure hM
 exact ⟨_, resE_tmp rfl, ⟨l6, v_l6, hr_, rfl, H⟩⟩

def zcf (s : List Dem) (f : Dem -> M Bool) : Nat -> M (Nat ⊕ (Int ⊕ Unit)) := fun s2 =>
  bif decide ((s2 : Int) < (s.length : Int)) then (
  M.grd (decide ((s2 : Int) < (s.length : Int))) <|
  M.bind (f (s.getD s2 default)) fun r2 =>
  bif r2 then (
  M.pure (.inr (.inl (s2 : Int))))
  else (
  M.pure (.inl (s2 + 1))))
  else (
  M.pure (.inr (.inr ())))
def zcE (s : List Dem) (f : Dem -> M Bool) : M Int :=
  M.bind (M.iter (zcf s f) 0) fun x_ => match x_ with
  | (.inl s3) => (
  M.pure s3)
  | (.inr (_ : Unit)) => (
  M.pure (-1))
theorem zdu {R : List Chunk} {C_s : Cells} {v_s : Value} {v_f : Value} (s : List Dem) (f : Dem -> M Bool) (hC_s : Reads R C_s) (hs_s : Sl C_s v_s s) (hf_f : FnM Tryz.prog R v_f f) {r : Int} (hM : (zcE s f).Ends r) (w : World) (H : St w w [] R) : Ret Tryz.prog 99 #[v_s, v_f] w fun v w' => ∃ (y0 : Int), y0 = r /\ v = I y0 /\ St w w' [] R := by
 refine ret_of_W Tryz.func99 rfl rfl rfl ?_
 refine W.seq ?_
 refine W.region rfl ?_
 refine s_val (x_as (v := I 0) rfl) ?_
 refine s_nil ?_
 refine W.seq ?_
 refine W.seq ?_
 refine W.region rfl ?_
 refine s_val (x_mv (v := v_s) rfl) ?_
 have hl1z := (hs_s).len_le
 refine s_val (x_lenS T62.und rfl hs_s) ?_
 refine s_val (x_mv (v := I 0) rfl) ?_
 refine s_nil ?_
 refine W.block ?_
 obtain ⟨ex2z, hi3z, hk4z⟩ := M.e_bind hM
 obtain ⟨m0_, hi3z⟩ := M.e_iter hi3z
 refine W.loop (fun m σ W => ∃ (s2 : Nat) (ρ : Env), σ = upds ρ [(0, v_s), (1, v_f), (7, I (s.length : Int)), (8, I (s2 : Int))] /\ M.iterN (zcf s f) m s2 = some ex2z /\ St w W [] R) ?_ ?_
 ·exact ⟨_, 0, _, upds_of _ _ ⟨rfl, rfl, rfl, rfl, trivial⟩, hi3z, H⟩
 rintro m7z σ w5z ⟨s2, ρ, rfl, hI6z, H⟩
 obtain ⟨m8z, lt9z, x10z, hM, hN11z⟩ := M.e_iterN hI6z
 simp only [zcf] at hM
 clear hI6z
 refine W.seq ?_
 refine W.region rfl ?_
 refine s_val (x_cmp (kd := .i64) (a := (s2 : Int)) (b := (s.length : Int)) (r := decide ((s2 : Int) < (s.length : Int))) rfl rfl rfl) ?_
 refine s_nil ?_
 refine W.seq ?_
 refine W.cond (decide ((s2 : Int) < (s.length : Int))) rfl (fun c12z => ?_) (fun c12z => ?_)
 ·replace hM := M.e_t hM c12z
  simp only [decide_eq_true_eq, decide_eq_false_iff_not, beq_iff_eq, bne_iff_ne, beq_eq_false_iff_ne, bne_eq_false_iff_eq, ne_eq, Decidable.not_not] at c12z
  refine W.skip ?_
  refine W.seq ?_
  refine W.block ?_
  refine W.seq ?_
  refine W.region rfl ?_
  refine s_val (x_mv (v := I (s2 : Int)) rfl) ?_
  refine s_val (x_as (v := I (s2 : Int)) rfl) ?_
  refine s_nil ?_
  refine W.seq ?_
  refine W.region rfl ?_
  refine s_val (x_mv (v := v_f) rfl) ?_
  refine s_val (x_mv (v := v_s) rfl) ?_
  refine s_val (x_mv (v := I (s2 : Int)) rfl) ?_
  obtain ⟨sd13z, hM⟩ := M.e_grd hM
  simp only [Bool.and_eq_true, decide_eq_true_eq] at sd13z
  refine s_val (x_ix (a := v_s) (b := I (s2 : Int)) (v := vat v_s 2 (Int.toNat (s2 : Int))) rfl rfl (Sl.ix (α := Dem) T62.und T62.size hs_s (by omega) (by omega))) ?_
  refine s_val (x_ld (p := vat v_s 2 (Int.toNat (s2 : Int))) (v := .agg #[I ((s.getD s2 default).spring), I ((s.getD s2 default).town)]) rfl (ld_ag Ag61 Sz61 (At.mono (Dem_atA hs_s (i := (s2 : Int)) (by omega) (by omega)) (hC_s.at H)))) ?_
  obtain ⟨r2, hx15z, hM⟩ := M.e_bind hM
  refine t_callM H hf_f rfl rfl (s.getD s2 default) Reads.none ⟨_, rfl, rfl⟩ hx15z ?_
  intro w14z H
  refine s_nil ?_
  refine W.cond r2 rfl (fun c16z => ?_) (fun c16z => ?_)
  ·replace hM := M.e_t hM c16z
   refine W.seq ?_
   refine W.region rfl ?_
   refine s_val (x_mv (v := I (s2 : Int)) rfl) ?_
   refine s_val (x_as (v := I (s2 : Int)) rfl) ?_
   refine s_nil ?_
   refine W.ret ?_
   have hX17z := M.e_inr hM hN11z
   subst hX17z
   replace hM := hk4z
   try dsimp only at hM
   have hr_ := M.e_pure hM
   exact ⟨_, resE_tmp rfl, ⟨(s2 : Int), hr_, rfl, H⟩⟩
  replace hM := M.e_f hM c16z
  refine W.skip ?_
  refine W.region rfl ?_
  refine s_val (x_ari (a := (s2 : Int)) (b := 1) (r := (s2 : Int) + 1) rfl rfl rfl (by omega)) ?_
  refine s_val (x_mv (v := I ((s2 : Int) + 1)) rfl) ?_
  refine s_nil ?_
  exact ⟨m8z, lt9z, s2 + 1, _, upds_of _ _ ⟨rfl, rfl, rfl, rfl, trivial⟩, M.e_inl hM hN11z, H⟩
 replace hM := M.e_f hM c12z
 simp only [decide_eq_true_eq, decide_eq_false_iff_not, beq_iff_eq, bne_iff_ne, beq_eq_false_iff_ne, bne_eq_false_iff_eq, ne_eq, Decidable.not_not] at c12z
 refine W.exit ?_
 have hX18z := M.e_inr hM hN11z
 subst hX18z
 replace hM := hk4z
 try dsimp only at hM
 refine W.seq ?_
 refine W.region rfl ?_
 refine s_val (x_as (v := I (-1)) rfl) ?_
 refine s_nil ?_
 refine W.ret ?_
 have hr_ := M.e_pure hM
 exact ⟨_, resE_tmp rfl, ⟨(-1), hr_, rfl, H⟩⟩

def zcz (s : List Dem) (f : Dem -> M Bool) : M Bool :=
  M.bind (zcE s f) fun r2 =>
  M.pure (decide (0 <= r2))
theorem zdD {R : List Chunk} {C_s : Cells} {v_s : Value} {v_f : Value} (s : List Dem) (f : Dem -> M Bool) (hC_s : Reads R C_s) (hs_s : Sl C_s v_s s) (hf_f : FnM Tryz.prog R v_f f) {r : Bool} (hM : (zcz s f).Ends r) (w : World) (H : St w w [] R) : Ret Tryz.prog 97 #[v_s, v_f] w fun v w' => ∃ (y0 : Bool), y0 = r /\ v = B y0 /\ St w w' [] R := by
 refine ret_of_W Tryz.func97 rfl rfl rfl ?_
 refine W.seq ?_
 refine W.region rfl ?_
 refine s_val (x_as (v := B false) rfl) ?_
 refine s_nil ?_
 refine W.seq ?_
 refine W.region rfl ?_
 refine s_val (x_mv (v := v_s) rfl) ?_
 refine s_val (x_mv (v := v_f) rfl) ?_
 obtain ⟨r2z, hx1z, hM⟩ := M.e_bind hM
 refine s_call cf99 [v_s, v_f] rfl (zdu s f (hC_s.app _) hs_s (hf_f.app _) hx1z _ (H.gt 0)) ?_
 rintro vq w3z ⟨r2, hr4z, hvq, H2_⟩
 subst hr4z
 subst vq
 try dsimp only at hM
 replace H := H.bk H2_
 clear H2_
 refine s_val (x_cmp (kd := .i64) (a := r2) (b := 0) (r := decide (0 <= r2)) rfl rfl rfl) ?_
 refine s_val (x_as (v := B (decide (0 <= r2))) rfl) ?_
 refine s_nil ?_
 refine W.ret ?_
 have hr_ := M.e_pure hM
 exact ⟨_, resE_tmp rfl, ⟨(decide (0 <= r2)), hr_, rfl, H⟩⟩

def zci (x : Dem) (k00 : Int) (k01 : Int) : M Bool :=
  M.pure (decide (x = (⟨(k00 : Int), (k01 : Int)⟩ : Dem)))
theorem zdi {R : List Chunk} {b_k0 : Nat} (x : Dem) (k00 : Int) (k01 : Int) (h_b_k0 : Has R (cBlk b_k0 [I k00, I k01] 61)) {r : Bool} (hM : (zci x k00 k01).Ends r) (w : World) (H : St w w [] R) : Ret Tryz.prog 98 #[.agg #[I x.spring, I x.town], .pointer (some ⟨b_k0, 0, none⟩)] w fun v w' => ∃ (y0 : Bool), y0 = r /\ v = B y0 /\ St w w' [] R := by
 refine ret_of_W Tryz.func98 rfl rfl rfl ?_
 refine W.seq ?_
 refine W.region rfl ?_
 refine t_box (v := .agg #[I x.spring, I x.town]) (cs := [I x.spring, I x.town]) H rfl rfl ?_
 intro b_1 w1z H
 refine s_val (x_as (v := B false) rfl) ?_
 refine s_nil ?_
 refine W.seq ?_
 refine W.region rfl ?_
 refine s_val (x_ld (p := .pointer (some ⟨b_1, 0, none⟩)) (v := .agg #[I x.spring, I x.town]) rfl (ldb_ag (ds := [I x.spring, I x.town]) Ag61 Sz61 (H.blk (k := 0) rfl) rfl rfl)) ?_
 refine s_val (x_ld (p := .pointer (some ⟨b_k0, 0, none⟩)) (v := .agg #[I k00, I k01]) rfl (ldb_ag (ds := [I k00, I k01]) Ag61 Sz61 (h_b_k0.blk H) rfl rfl)) ?_
 refine s_val (x_eqS (eqT61 x (⟨(k00 : Int), (k01 : Int)⟩ : Dem) _) gdT61 rfl rfl) ?_
 refine s_val (x_as (v := B (decide (x = (⟨(k00 : Int), (k01 : Int)⟩ : Dem)))) rfl) ?_
 refine s_nil ?_
 refine W.ret ?_
 have hr_ := M.e_pure hM
 exact ⟨_, resE_tmp rfl, ⟨(decide (x = (⟨(k00 : Int), (k01 : Int)⟩ : Dem))), hr_, rfl, (H.pk [])⟩⟩

def zcG (w__River_Down : List Int) (w__River_Travel : List Span) (w__River_Springs : List Int) (w__River_Towns : List Town) (w__River_Delay_Lo : Int) (w__River_Delay_Hi : Int) (w__River_Floods : List Flood) (d : Dem) : M Bool :=
  M.bind (zbT w__River_Down w__River_Travel w__River_Springs w__River_Towns w__River_Delay_Lo w__River_Delay_Hi w__River_Floods) fun r2 =>
  M.bind (zcz r2 (fun xqz => zci xqz d.spring d.town)) fun r3 =>
  M.pure r3
theorem zdv {R : List Chunk} {b_w_ : Nat} {C_w__River_Down : Cells} {v_w__River_Down : Value} {C_w__River_Travel : Cells} {v_w__River_Travel : Value} {C_w__River_Springs : Cells} {v_w__River_Springs : Value} {C_w__River_Towns : Cells} {v_w__River_Towns : Value} {C_w__River_Floods : Cells} {v_w__River_Floods : Value} {b_w__found : Nat} (w__River_Down : List Int) (w__River_Travel : List Span) (w__River_Springs : List Int) (w__River_Towns : List Town) (w__River_Delay_Lo : Int) (w__River_Delay_Hi : Int) (w__River_Floods : List Flood) (d : Dem) (hC_w__River_Down : Reads R C_w__River_Down) (hs_w__River_Down : Sl C_w__River_Down v_w__River_Down w__River_Down) (hC_w__River_Travel : Reads R C_w__River_Travel) (hs_w__River_Travel : Sl C_w__River_Travel v_w__River_Travel w__River_Travel) (hC_w__River_Springs : Reads R C_w__River_Springs) (hs_w__River_Springs : Sl C_w__River_Springs v_w__River_Springs w__River_Springs) (hC_w__River_Towns : Reads R C_w__River_Towns) (hs_w__River_Towns : Sl C_w__River_Towns v_w__River_Towns w__River_Towns) (hC_w__River_Floods : Reads R C_w__River_Floods) (hs_w__River_Floods : Sl C_w__River_Floods v_w__River_Floods w__River_Floods) (h_b_w_ : Has R (cBlk b_w_ [v_w__River_Down, v_w__River_Travel, v_w__River_Springs, v_w__River_Towns, I w__River_Delay_Lo, I w__River_Delay_Hi, v_w__River_Floods, .map (some b_w__found)] 111)) {r : Bool} (hM : (zcG w__River_Down w__River_Travel w__River_Springs w__River_Towns w__River_Delay_Lo w__River_Delay_Hi w__River_Floods d).Ends r) (w : World) (H : St w w [] R) : Ret Tryz.prog 79 #[.pointer (some ⟨b_w_, 0, none⟩), .agg #[I d.spring, I d.town]] w fun v w' => ∃ (y0 : Bool), y0 = r /\ v = B y0 /\ St w w' [] R := by
 refine ret_of_W Tryz.func79 rfl rfl rfl ?_
 refine W.seq ?_
 refine W.region rfl ?_
 refine t_box (v := .agg #[I d.spring, I d.town]) (cs := [I d.spring, I d.town]) H rfl rfl ?_
 intro b_1 w1z H
 refine s_val (x_as (v := B false) rfl) ?_
 refine s_nil ?_
 refine W.seq ?_
 refine W.region rfl ?_
 refine s_val (x_mv (v := .pointer (some ⟨b_w_, 0, none⟩)) rfl) ?_
 obtain ⟨r3z, hx2z, hM⟩ := M.e_bind hM
 refine s_call cf77 [.pointer (some ⟨b_w_, 0, none⟩)] rfl (zcH w__River_Down w__River_Travel w__River_Springs w__River_Towns w__River_Delay_Lo w__River_Delay_Hi w__River_Floods (hC_w__River_Down.app _) hs_w__River_Down (hC_w__River_Travel.app _) hs_w__River_Travel (hC_w__River_Springs.app _) hs_w__River_Springs (hC_w__River_Towns.app _) hs_w__River_Towns (hC_w__River_Floods.app _) hs_w__River_Floods (h_b_w_.app _) hx2z _ (H.gt 1)) ?_
 rintro vq w4z ⟨r2, u0_2, hr5z, hvq, H2_⟩
 subst hr5z
 subst vq
 try dsimp only at hM
 replace H := H.bk H2_
 clear H2_
 refine s_val (x_mf (fs := []) (cs := [.pointer (some ⟨b_1, 0, none⟩)]) rfl rfl) ?_
 obtain ⟨r7z, hx6z, hM⟩ := M.e_bind hM
 refine s_call cf97 [u0_2, .func (.func 98) #[] #[.pointer (some ⟨b_1, 0, none⟩)]] rfl (zdD r2 (fun xqz => zci xqz d.spring d.town) (Reads.of (k := 0) rfl ownLe) (ownSl (H.get (k := 0) rfl)) ⟨98, [.pointer (some ⟨b_1, 0, none⟩)], rfl, cf98, fun wqz Lqz Cqz vqz xqz bqz hsqz hCqz hAqz hpqz => by obtain rfl := Dem_arg hAqz; exact (zdi xqz d.spring d.town (Has.app (Has.here (k := 1) rfl) _) hpqz wqz (St.refl hsqz)).mono fun vqz wqz ⟨yqz, hrqz, hvqz, Hqz⟩ => by subst hrqz; exact ⟨hvqz, Hqz⟩⟩ hx6z _ (H.gt 2)) ?_
 rintro vq w8z ⟨r3, hr9z, hvq, H2_⟩
 subst hr9z
 subst vq
 try dsimp only at hM
 replace H := H.bk H2_
 clear H2_
 refine s_val (x_as (v := B r3) rfl) ?_
 refine s_nil ?_
 replace H := H.pk []
 refine W.ret ?_
 have hr_ := M.e_pure hM
 exact ⟨_, resE_tmp rfl, ⟨r3, hr_, rfl, H⟩⟩

def zcp (r__Down : List Int) (r__Travel : List Span) (r__Springs : List Int) (r__Towns : List Town) (r__Delay_Lo : Int) (r__Delay_Hi : Int) (r__Floods : List Flood) (d : Dem) : M ((List Int) × Int) :=
  M.bind (zal r__Down r__Travel r__Springs r__Towns r__Delay_Lo r__Delay_Hi r__Floods) fun x_ => match x_ with
  | (.inl r1) => (
  bif r1 != 0 then (
  M.pure (([]), r1))
  else (
  M.fail))
  | (.inr (r04, r05, r12)) => (
  bif r12 != 0 then (
  M.fail)
  else (
  M.bind (zcG r__Down r__Travel r__Springs r__Towns r04 r05 r__Floods d) fun r2 =>
  bif !r2 then (
  M.pure (([]), 2))
  else (
  M.bind (zaa r__Down r__Travel r__Springs r__Towns r04 r05 r__Floods d) fun r3 =>
  M.grd (decide (r3.length * 8 <= 140737488355328)) <|
  M.pure (r3, 0))))
theorem zcV {R : List Chunk} {C_r__Down : Cells} {v_r__Down : Value} {C_r__Travel : Cells} {v_r__Travel : Value} {C_r__Springs : Cells} {v_r__Springs : Value} {C_r__Towns : Cells} {v_r__Towns : Value} {C_r__Floods : Cells} {v_r__Floods : Value} (r__Down : List Int) (r__Travel : List Span) (r__Springs : List Int) (r__Towns : List Town) (r__Delay_Lo : Int) (r__Delay_Hi : Int) (r__Floods : List Flood) (d : Dem) (hC_r__Down : Reads R C_r__Down) (hs_r__Down : Sl C_r__Down v_r__Down r__Down) (hC_r__Travel : Reads R C_r__Travel) (hs_r__Travel : Sl C_r__Travel v_r__Travel r__Travel) (hC_r__Springs : Reads R C_r__Springs) (hs_r__Springs : Sl C_r__Springs v_r__Springs r__Springs) (hC_r__Towns : Reads R C_r__Towns) (hs_r__Towns : Sl C_r__Towns v_r__Towns r__Towns) (hC_r__Floods : Reads R C_r__Floods) (hs_r__Floods : Sl C_r__Floods v_r__Floods r__Floods) {r : ((List Int) × Int)} (hM : (zcp r__Down r__Travel r__Springs r__Towns r__Delay_Lo r__Delay_Hi r__Floods d).Ends r) (w : World) (H : St w w [] R) : Ret Tryz.prog 32 #[.agg #[v_r__Down, v_r__Travel, v_r__Springs, v_r__Towns, I r__Delay_Lo, I r__Delay_Hi, v_r__Floods], .agg #[I d.spring, I d.town]] w fun v w' => ∃ (y0 : List Int) (y1 : Int) (u0 : Value), (y0, y1) = r /\ v = .tuple #[u0, I y1] /\ St w w' [cOwn (α := Int) 3 u0 y0] R := by
 refine ret_of_W Tryz.func32 rfl rfl rfl ?_
 refine W.seq ?_
 refine W.region rfl ?_
 refine t_box (v := .agg #[v_r__Down, v_r__Travel, v_r__Springs, v_r__Towns, I r__Delay_Lo, I r__Delay_Hi, v_r__Floods]) (cs := [v_r__Down, v_r__Travel, v_r__Springs, v_r__Towns, I r__Delay_Lo, I r__Delay_Hi, v_r__Floods]) H rfl rfl ?_
 intro b_1 w1z H
 refine t_box (v := .agg #[I d.spring, I d.town]) (cs := [I d.spring, I d.town]) H rfl rfl ?_
 intro b_2 w2z H
 refine s_val (x_as (v := .slice none 0 0) rfl) ?_
 refine s_val (x_as (v := I 0) rfl) ?_
 refine s_nil ?_
 refine W.seq ?_
 refine W.region rfl ?_
 refine s_val (x_ld (p := .pointer (some ⟨b_1, 0, none⟩)) (v := .agg #[v_r__Down, v_r__Travel, v_r__Springs, v_r__Towns, I r__Delay_Lo, I r__Delay_Hi, v_r__Floods]) rfl (ldb_ag (ds := [v_r__Down, v_r__Travel, v_r__Springs, v_r__Towns, I r__Delay_Lo, I r__Delay_Hi, v_r__Floods]) Ag29 Sz29 (H.blk (k := 1) rfl) rfl rfl)) ?_
 obtain ⟨r4z, hx3z, hM⟩ := M.e_bind hM
 refine s_call cf72 [.agg #[v_r__Down, v_r__Travel, v_r__Springs, v_r__Towns, I r__Delay_Lo, I r__Delay_Hi, v_r__Floods]] rfl (zaS r__Down r__Travel r__Springs r__Towns r__Delay_Lo r__Delay_Hi r__Floods (hC_r__Down.app _) hs_r__Down (hC_r__Travel.app _) hs_r__Travel (hC_r__Springs.app _) hs_r__Springs (hC_r__Towns.app _) hs_r__Towns (hC_r__Floods.app _) hs_r__Floods hx3z _ (H.gt 2)) ?_
 rintro vq w5z (⟨r1, hr6z, hvq, H2_⟩ | ⟨r04, r05, r12, nb0_3, nb1_4, Bs2_5, hr7z, hvq, H2_⟩)
 ·subst hr6z
  subst vq
  try dsimp only at hM
  replace H := H.bk H2_
  clear H2_
  refine s_val (x_mv (v := .tuple #[.pointer none, I r1]) rfl) ?_
  refine s_val (x_ext (vs := [.pointer none, I r1]) (v := .pointer none) rfl rfl) ?_
  refine s_val (x_ext (vs := [.pointer none, I r1]) (v := I r1) rfl rfl) ?_
  refine s_val (x_as (v := .pointer none) rfl) ?_
  refine s_val (x_as (v := I r1) rfl) ?_
  refine s_nil ?_
  refine W.seq ?_
  refine W.block ?_
  refine W.seq ?_
  refine W.region rfl ?_
  refine s_val (x_mv (v := I r1) rfl) ?_
  refine s_val (x_cmp (kd := .i64) (a := r1) (b := 0) (r := r1 != 0) rfl rfl rfl) ?_
  refine s_val (x_as (v := B (r1 != 0)) rfl) ?_
  refine s_nil ?_
  refine W.cond (r1 != 0) rfl (fun c8z => ?_) (fun c8z => ?_)
  ·replace hM := M.e_t hM c8z
   simp only [decide_eq_true_eq, decide_eq_false_iff_not, beq_iff_eq, bne_iff_ne, beq_eq_false_iff_ne, bne_eq_false_iff_eq, ne_eq, Decidable.not_not] at c8z
   refine W.seq ?_
   refine W.region rfl ?_
   refine s_val (x_mv (v := I r1) rfl) ?_
   refine s_val (x_as (v := .slice none 0 0) rfl) ?_
   refine s_val (x_as (v := I r1) rfl) ?_
   refine s_nil ?_
   replace H := H.pk []
   refine W.ret ?_
   have hr_ := M.e_pure hM
   replace H := H.nilOwn (α := Int) 3
   exact ⟨_, resE_tmp2 rfl, ⟨([]), r1, (.slice none 0 0), hr_, rfl, H⟩⟩
  replace hM := M.e_f hM c8z
  exact (M.e_fail hM).elim
 subst hr7z
 subst vq
 try dsimp only at hM
 replace H := H.bk H2_
 clear H2_
 refine s_val (x_mv (v := .tuple #[.pointer (some ⟨nb0_3, 0, none⟩), I r12]) rfl) ?_
 refine s_val (x_ext (vs := [.pointer (some ⟨nb0_3, 0, none⟩), I r12]) (v := .pointer (some ⟨nb0_3, 0, none⟩)) rfl rfl) ?_
 refine s_val (x_ext (vs := [.pointer (some ⟨nb0_3, 0, none⟩), I r12]) (v := I r12) rfl rfl) ?_
 refine s_val (x_as (v := .pointer (some ⟨nb0_3, 0, none⟩)) rfl) ?_
 refine s_val (x_as (v := I r12) rfl) ?_
 refine s_nil ?_
 refine W.seq ?_
 refine W.block ?_
 refine W.seq ?_
 refine W.region rfl ?_
 refine s_val (x_mv (v := I r12) rfl) ?_
 refine s_val (x_cmp (kd := .i64) (a := r12) (b := 0) (r := r12 != 0) rfl rfl rfl) ?_
 refine s_val (x_as (v := B (r12 != 0)) rfl) ?_
 refine s_nil ?_
 refine W.cond (r12 != 0) rfl (fun c9z => ?_) (fun c9z => ?_)
 ·replace hM := M.e_t hM c9z
  exact (M.e_fail hM).elim
 replace hM := M.e_f hM c9z
 simp only [decide_eq_true_eq, decide_eq_false_iff_not, beq_iff_eq, bne_iff_ne, beq_eq_false_iff_ne, bne_eq_false_iff_eq, ne_eq, Decidable.not_not] at c9z
 refine W.seq ?_
 refine W.region rfl ?_
 refine s_val (x_mv (v := .pointer (some ⟨nb0_3, 0, none⟩)) rfl) ?_
 refine s_val (x_ld (p := .pointer (some ⟨b_2, 0, none⟩)) (v := .agg #[I d.spring, I d.town]) rfl (ldb_ag (ds := [I d.spring, I d.town]) Ag61 Sz61 (H.blk (k := 2) rfl) rfl rfl)) ?_
 obtain ⟨r11z, hx10z, hM⟩ := M.e_bind hM
 refine s_call cf79 [.pointer (some ⟨nb0_3, 0, none⟩), .agg #[I d.spring, I d.town]] rfl (zdv r__Down r__Travel r__Springs r__Towns r04 r05 r__Floods d (hC_r__Down.app _) hs_r__Down (hC_r__Travel.app _) hs_r__Travel (hC_r__Springs.app _) hs_r__Springs (hC_r__Towns.app _) hs_r__Towns (hC_r__Floods.app _) hs_r__Floods (Has.here (k := 0) rfl) hx10z _ (H.gt 4)) ?_
 rintro vq w12z ⟨r2, hr13z, hvq, H2_⟩
 subst hr13z
 subst vq
 try dsimp only at hM
 replace H := H.bk H2_
 clear H2_
 refine s_val (x_not (b := r2) rfl) ?_
 refine s_val (x_as (v := B (!r2)) rfl) ?_
 refine s_nil ?_
 refine W.cond (!r2) rfl (fun c14z => ?_) (fun c14z => ?_)
 ·replace hM := M.e_t hM c14z
  refine W.seq ?_
  refine W.region rfl ?_
  refine s_val (x_as (v := .slice none 0 0) rfl) ?_
  refine s_val (x_as (v := I 2) rfl) ?_
  refine s_nil ?_
  replace H := H.pk []
  refine W.ret ?_
  have hr_ := M.e_pure hM
  replace H := H.nilOwn (α := Int) 3
  exact ⟨_, resE_tmp2 rfl, ⟨([]), 2, (.slice none 0 0), hr_, rfl, H⟩⟩
 replace hM := M.e_f hM c14z
 refine W.skip ?_
 refine W.seq ?_
 refine W.region rfl ?_
 refine s_val (x_mv (v := .pointer (some ⟨nb0_3, 0, none⟩)) rfl) ?_
 refine s_val (x_ld (p := .pointer (some ⟨b_2, 0, none⟩)) (v := .agg #[I d.spring, I d.town]) rfl (ldb_ag (ds := [I d.spring, I d.town]) Ag61 Sz61 (H.blk (k := 2) rfl) rfl rfl)) ?_
 obtain ⟨r16z, hx15z, hM⟩ := M.e_bind hM
 refine s_call cf81 [.pointer (some ⟨nb0_3, 0, none⟩), .agg #[I d.spring, I d.town]] rfl (zbC r__Down r__Travel r__Springs r__Towns r04 r05 r__Floods d (hC_r__Down.app _) hs_r__Down (hC_r__Travel.app _) hs_r__Travel (hC_r__Springs.app _) hs_r__Springs (hC_r__Towns.app _) hs_r__Towns (hC_r__Floods.app _) hs_r__Floods (Has.here (k := 0) rfl) hx15z _ ((H.pk [1, 0, 2, 3]).gt 3)) ?_
 rintro vq w17z ⟨r3, u0_6, Bs1_7, hr18z, hvq, H2_, hf19z⟩
 subst hr18z
 subst vq
 try dsimp only at hM
 replace H := H.pk [1, 0, 2, 3] |>.bk H2_
 clear H2_
 obtain ⟨sd22z, hM⟩ := M.e_grd hM
 simp only [Bool.and_eq_true, decide_eq_true_eq] at sd22z
 refine s_call cf80 [u0_6] rfl (clone_any r3 (Reads.of (k := 0) rfl memLe) hf19z (by omega) _ H.sep) ?_
 rintro v20z w21z H2_
 replace H := H.bk H2_
 clear H2_
 refine s_val (x_as (v := v20z) rfl) ?_
 refine s_val (x_as (v := I 0) rfl) ?_
 refine s_nil ?_
 replace H := H.pk [0]
 refine W.ret ?_
 have hr_ := M.e_pure hM
 exact ⟨_, resE_tmp2 rfl, ⟨r3, 0, v20z, hr_, rfl, H⟩⟩

def zcS (d : Dem) (k0200 : List Int) (k0201 : List Span) (k0202 : List Int) (k0203 : List Town) (k0204 : Int) (k0205 : Int) (k0206 : List Flood) : M Bool :=
  M.bind (zaa k0200 k0201 k0202 k0203 k0204 k0205 k0206 d) fun r2 =>
  M.pure (decide (0 < (r2.length : Int)))
theorem zdl {R : List Chunk} {b_k0 : Nat} {b_k020 : Nat} {C_k0200 : Cells} {v_k0200 : Value} {C_k0201 : Cells} {v_k0201 : Value} {C_k0202 : Cells} {v_k0202 : Value} {C_k0203 : Cells} {v_k0203 : Value} {C_k0206 : Cells} {v_k0206 : Value} {b_k0207 : Nat} {B_b_k0207 : Base} (d : Dem) (k0200 : List Int) (k0201 : List Span) (k0202 : List Int) (k0203 : List Town) (k0204 : Int) (k0205 : Int) (k0206 : List Flood) (hC_k0200 : Reads R C_k0200) (hs_k0200 : Sl C_k0200 v_k0200 k0200) (hC_k0201 : Reads R C_k0201) (hs_k0201 : Sl C_k0201 v_k0201 k0201) (hC_k0202 : Reads R C_k0202) (hs_k0202 : Sl C_k0202 v_k0202 k0202) (hC_k0203 : Reads R C_k0203) (hs_k0203 : Sl C_k0203 v_k0203 k0203) (hC_k0206 : Reads R C_k0206) (hs_k0206 : Sl C_k0206 v_k0206 k0206) (h_b_k020 : Has R (cBlk b_k020 [v_k0200, v_k0201, v_k0202, v_k0203, I k0204, I k0205, v_k0206, .map (some b_k0207)] 111)) (h_b_k0 : Has R (cBlk b_k0 [.func (.func 81) #[.pointer (some ⟨b_k020, 0, none⟩)] #[]] 134)) {r : Bool} (hM : (zcS d k0200 k0201 k0202 k0203 k0204 k0205 k0206).Ends r) (w : World) (H : St w w [cMem encDm b_k0207 B_b_k0207 (zaa k0200 k0201 k0202 k0203 k0204 k0205 k0206)] R) : Ret Tryz.prog 101 #[.agg #[I d.spring, I d.town], .pointer (some ⟨b_k0, 0, none⟩)] w fun v w' => ∃ (y0 : Bool) (Bs0 : Base), y0 = r /\ v = B y0 /\ St w w' [cMem encDm b_k0207 Bs0 (zaa k0200 k0201 k0202 k0203 k0204 k0205 k0206)] R := by
 refine ret_of_W Tryz.func101 rfl rfl rfl ?_
 refine W.seq ?_
 refine W.region rfl ?_
 refine t_box (v := .agg #[I d.spring, I d.town]) (cs := [I d.spring, I d.town]) H rfl rfl ?_
 intro b_1 w1z H
 refine s_val (x_as (v := B false) rfl) ?_
 refine s_nil ?_
 refine W.seq ?_
 refine W.region rfl ?_
 refine s_val (x_ld (p := .pointer (some ⟨b_k0, 0, none⟩)) (v := .func (.func 81) #[.pointer (some ⟨b_k020, 0, none⟩)] #[]) rfl (ldb_sc Sc134 (h_b_k0.blk H) rfl)) ?_
 refine s_val (x_ld (p := .pointer (some ⟨b_1, 0, none⟩)) (v := .agg #[I d.spring, I d.town]) rfl (ldb_ag (ds := [I d.spring, I d.town]) Ag61 Sz61 (H.blk (k := 0) rfl) rfl rfl)) ?_
 obtain ⟨r3z, hx2z, hM⟩ := M.e_bind hM
 refine s_callm (f := 81) (fs := [.pointer (some ⟨b_k020, 0, none⟩)]) rfl cf81 [.agg #[I d.spring, I d.town]] rfl (zbC k0200 k0201 k0202 k0203 k0204 k0205 k0206 d (hC_k0200.app _) hs_k0200 (hC_k0201.app _) hs_k0201 (hC_k0202.app _) hs_k0202 (hC_k0203.app _) hs_k0203 (hC_k0206.app _) hs_k0206 (h_b_k020.app _) hx2z _ ((H.pk [1, 0]).gt 1)) ?_
 rintro vq w4z ⟨r2, u0_2, Bs1_3, hr5z, hvq, H2_, hf6z⟩
 subst hr5z
 subst vq
 try dsimp only at hM
 replace H := H.pk [1, 0] |>.bk H2_
 clear H2_
 have hl7z := (hf6z).len_le
 refine s_val (x_lenS T22.und rfl hf6z) ?_
 refine s_val (x_cmp (kd := .i64) (a := (r2.length : Int)) (b := 0) (r := decide (0 < (r2.length : Int))) rfl rfl rfl) ?_
 refine s_val (x_as (v := B (decide (0 < (r2.length : Int)))) rfl) ?_
 refine s_nil ?_
 refine W.ret ?_
 have hr_ := M.e_pure hM
 exact ⟨_, resE_tmp rfl, ⟨(decide (0 < (r2.length : Int))), Bs1_3, hr_, rfl, (H.pk [0])⟩⟩

def zc0 (x : Dem) (k020200 : List Int) (k020201 : List Span) (k020202 : List Int) (k020203 : List Town) (k020204 : Int) (k020205 : Int) (k020206 : List Flood) : M Bool :=
  M.bind (zcS x k020200 k020201 k020202 k020203 k020204 k020205 k020206) fun r2 =>
  M.pure (!r2)
theorem zdc {R : List Chunk} {b_k0 : Nat} {b_k020 : Nat} {b_k02020 : Nat} {C_k020200 : Cells} {v_k020200 : Value} {C_k020201 : Cells} {v_k020201 : Value} {C_k020202 : Cells} {v_k020202 : Value} {C_k020203 : Cells} {v_k020203 : Value} {C_k020206 : Cells} {v_k020206 : Value} {b_k020207 : Nat} {B_b_k020207 : Base} (x : Dem) (k020200 : List Int) (k020201 : List Span) (k020202 : List Int) (k020203 : List Town) (k020204 : Int) (k020205 : Int) (k020206 : List Flood) (hC_k020200 : Reads R C_k020200) (hs_k020200 : Sl C_k020200 v_k020200 k020200) (hC_k020201 : Reads R C_k020201) (hs_k020201 : Sl C_k020201 v_k020201 k020201) (hC_k020202 : Reads R C_k020202) (hs_k020202 : Sl C_k020202 v_k020202 k020202) (hC_k020203 : Reads R C_k020203) (hs_k020203 : Sl C_k020203 v_k020203 k020203) (hC_k020206 : Reads R C_k020206) (hs_k020206 : Sl C_k020206 v_k020206 k020206) (h_b_k02020 : Has R (cBlk b_k02020 [v_k020200, v_k020201, v_k020202, v_k020203, I k020204, I k020205, v_k020206, .map (some b_k020207)] 111)) (h_b_k020 : Has R (cBlk b_k020 [.func (.func 81) #[.pointer (some ⟨b_k02020, 0, none⟩)] #[]] 134)) (h_b_k0 : Has R (cBlk b_k0 [.func (.func 101) #[] #[.pointer (some ⟨b_k020, 0, none⟩)]] 133)) {r : Bool} (hM : (zc0 x k020200 k020201 k020202 k020203 k020204 k020205 k020206).Ends r) (w : World) (H : St w w [cMem encDm b_k020207 B_b_k020207 (zaa k020200 k020201 k020202 k020203 k020204 k020205 k020206)] R) : Ret Tryz.prog 107 #[.agg #[I x.spring, I x.town], .pointer (some ⟨b_k0, 0, none⟩)] w fun v w' => ∃ (y0 : Bool) (Bs0 : Base), y0 = r /\ v = B y0 /\ St w w' [cMem encDm b_k020207 Bs0 (zaa k020200 k020201 k020202 k020203 k020204 k020205 k020206)] R := by
 refine ret_of_W Tryz.func107 rfl rfl rfl ?_
 refine W.seq ?_
 refine W.region rfl ?_
 refine t_box (v := .agg #[I x.spring, I x.town]) (cs := [I x.spring, I x.town]) H rfl rfl ?_
 intro b_1 w1z H
 refine s_val (x_as (v := B false) rfl) ?_
 refine s_nil ?_
 refine W.seq ?_
 refine W.region rfl ?_
 refine s_val (x_ld (p := .pointer (some ⟨b_k0, 0, none⟩)) (v := .func (.func 101) #[] #[.pointer (some ⟨b_k020, 0, none⟩)]) rfl (ldb_sc Sc133 (h_b_k0.blk H) rfl)) ?_
 refine s_val (x_ld (p := .pointer (some ⟨b_1, 0, none⟩)) (v := .agg #[I x.spring, I x.town]) rfl (ldb_ag (ds := [I x.spring, I x.town]) Ag61 Sz61 (H.blk (k := 0) rfl) rfl rfl)) ?_
 obtain ⟨r3z, hx2z, hM⟩ := M.e_bind hM
 refine s_callv (f := 101) rfl cf101 [.agg #[I x.spring, I x.town]] rfl (zdl x k020200 k020201 k020202 k020203 k020204 k020205 k020206 (hC_k020200.app _) hs_k020200 (hC_k020201.app _) hs_k020201 (hC_k020202.app _) hs_k020202 (hC_k020203.app _) hs_k020203 (hC_k020206.app _) hs_k020206 (h_b_k02020.app _) (h_b_k020.app _) hx2z _ ((H.pk [1, 0]).gt 1)) ?_
 rintro vq w4z ⟨r2, Bs0_2, hr5z, hvq, H2_⟩
 subst hr5z
 subst vq
 try dsimp only at hM
 replace H := H.pk [1, 0] |>.bk H2_
 clear H2_
 refine s_val (x_not (b := r2) rfl) ?_
 refine s_val (x_as (v := B (!r2)) rfl) ?_
 refine s_nil ?_
 refine W.ret ?_
 have hr_ := M.e_pure hM
 exact ⟨_, resE_tmp rfl, ⟨(!r2), Bs0_2, hr_, rfl, (H.pk [0])⟩⟩

def zb9 (s : List Dem) (f2020200 : List Int) (f2020201 : List Span) (f2020202 : List Int) (f2020203 : List Town) (f2020204 : Int) (f2020205 : Int) (f2020206 : List Flood) : Nat -> M (Nat ⊕ (Int ⊕ Unit)) := fun s2 =>
  bif decide ((s2 : Int) < (s.length : Int)) then (
  M.grd (decide ((s2 : Int) < (s.length : Int))) <|
  M.bind (zc0 (s.getD s2 default) f2020200 f2020201 f2020202 f2020203 f2020204 f2020205 f2020206) fun r2 =>
  bif r2 then (
  M.pure (.inr (.inl (s2 : Int))))
  else (
  M.pure (.inl (s2 + 1))))
  else (
  M.pure (.inr (.inr ())))
def zcK (s : List Dem) (f2020200 : List Int) (f2020201 : List Span) (f2020202 : List Int) (f2020203 : List Town) (f2020204 : Int) (f2020205 : Int) (f2020206 : List Flood) : M Int :=
  M.bind (M.iter (zb9 s f2020200 f2020201 f2020202 f2020203 f2020204 f2020205 f2020206) 0) fun x_ => match x_ with
  | (.inl s3) => (
  M.pure s3)
  | (.inr (_ : Unit)) => (
  M.pure (-1))
theorem zdd {R : List Chunk} {C_s : Cells} {v_s : Value} {b_f20 : Nat} {b_f2020 : Nat} {b_f202020 : Nat} {C_f2020200 : Cells} {v_f2020200 : Value} {C_f2020201 : Cells} {v_f2020201 : Value} {C_f2020202 : Cells} {v_f2020202 : Value} {C_f2020203 : Cells} {v_f2020203 : Value} {C_f2020206 : Cells} {v_f2020206 : Value} {b_f2020207 : Nat} {B_b_f2020207 : Base} (s : List Dem) (f2020200 : List Int) (f2020201 : List Span) (f2020202 : List Int) (f2020203 : List Town) (f2020204 : Int) (f2020205 : Int) (f2020206 : List Flood) (hC_s : Reads R C_s) (hs_s : Sl C_s v_s s) (hC_f2020200 : Reads R C_f2020200) (hs_f2020200 : Sl C_f2020200 v_f2020200 f2020200) (hC_f2020201 : Reads R C_f2020201) (hs_f2020201 : Sl C_f2020201 v_f2020201 f2020201) (hC_f2020202 : Reads R C_f2020202) (hs_f2020202 : Sl C_f2020202 v_f2020202 f2020202) (hC_f2020203 : Reads R C_f2020203) (hs_f2020203 : Sl C_f2020203 v_f2020203 f2020203) (hC_f2020206 : Reads R C_f2020206) (hs_f2020206 : Sl C_f2020206 v_f2020206 f2020206) (h_b_f202020 : Has R (cBlk b_f202020 [v_f2020200, v_f2020201, v_f2020202, v_f2020203, I f2020204, I f2020205, v_f2020206, .map (some b_f2020207)] 111)) (h_b_f2020 : Has R (cBlk b_f2020 [.func (.func 81) #[.pointer (some ⟨b_f202020, 0, none⟩)] #[]] 134)) (h_b_f20 : Has R (cBlk b_f20 [.func (.func 101) #[] #[.pointer (some ⟨b_f2020, 0, none⟩)]] 133)) {r : Int} (hM : (zcK s f2020200 f2020201 f2020202 f2020203 f2020204 f2020205 f2020206).Ends r) (w : World) (H : St w w [cMem encDm b_f2020207 B_b_f2020207 (zaa f2020200 f2020201 f2020202 f2020203 f2020204 f2020205 f2020206)] R) : Ret Tryz.prog 99 #[v_s, .func (.func 107) #[] #[.pointer (some ⟨b_f20, 0, none⟩)]] w fun v w' => ∃ (y0 : Int) (Bs0 : Base), y0 = r /\ v = I y0 /\ St w w' [cMem encDm b_f2020207 Bs0 (zaa f2020200 f2020201 f2020202 f2020203 f2020204 f2020205 f2020206)] R := by
 refine ret_of_W Tryz.func99 rfl rfl rfl ?_
 refine W.seq ?_
 refine W.region rfl ?_
 refine s_val (x_as (v := I 0) rfl) ?_
 refine s_nil ?_
 refine W.seq ?_
 refine W.seq ?_
 refine W.region rfl ?_
 refine s_val (x_mv (v := v_s) rfl) ?_
 have hl1z := (hs_s).len_le
 refine s_val (x_lenS T62.und rfl hs_s) ?_
 refine s_val (x_mv (v := I 0) rfl) ?_
 refine s_nil ?_
 refine W.block ?_
 obtain ⟨ex2z, hi3z, hk4z⟩ := M.e_bind hM
 obtain ⟨m0_, hi3z⟩ := M.e_iter hi3z
 refine W.loop (fun m σ W => ∃ (s2 : Nat) (B_mem : Base) (ρ : Env), σ = upds ρ [(0, v_s), (1, .func (.func 107) #[] #[.pointer (some ⟨b_f20, 0, none⟩)]), (7, I (s.length : Int)), (8, I (s2 : Int))] /\ M.iterN (zb9 s f2020200 f2020201 f2020202 f2020203 f2020204 f2020205 f2020206) m s2 = some ex2z /\ St w W [cMem encDm b_f2020207 B_mem (zaa f2020200 f2020201 f2020202 f2020203 f2020204 f2020205 f2020206)] R) ?_ ?_
 ·exact ⟨_, 0, B_b_f2020207, _, upds_of _ _ ⟨rfl, rfl, rfl, rfl, trivial⟩, hi3z, H⟩
 rintro m7z σ w5z ⟨s2, B_mem, ρ, rfl, hI6z, H⟩
 obtain ⟨m8z, lt9z, x10z, hM, hN11z⟩ := M.e_iterN hI6z
 simp only [zb9] at hM
 clear hI6z
 refine W.seq ?_
 refine W.region rfl ?_
 refine s_val (x_cmp (kd := .i64) (a := (s2 : Int)) (b := (s.length : Int)) (r := decide ((s2 : Int) < (s.length : Int))) rfl rfl rfl) ?_
 refine s_nil ?_
 refine W.seq ?_
 refine W.cond (decide ((s2 : Int) < (s.length : Int))) rfl (fun c12z => ?_) (fun c12z => ?_)
 ·replace hM := M.e_t hM c12z
  simp only [decide_eq_true_eq, decide_eq_false_iff_not, beq_iff_eq, bne_iff_ne, beq_eq_false_iff_ne, bne_eq_false_iff_eq, ne_eq, Decidable.not_not] at c12z
  refine W.skip ?_
  refine W.seq ?_
  refine W.block ?_
  refine W.seq ?_
  refine W.region rfl ?_
  refine s_val (x_mv (v := I (s2 : Int)) rfl) ?_
  refine s_val (x_as (v := I (s2 : Int)) rfl) ?_
  refine s_nil ?_
  refine W.seq ?_
  refine W.region rfl ?_
  refine s_val (x_mv (v := .func (.func 107) #[] #[.pointer (some ⟨b_f20, 0, none⟩)]) rfl) ?_
  refine s_val (x_mv (v := v_s) rfl) ?_
  refine s_val (x_mv (v := I (s2 : Int)) rfl) ?_
  obtain ⟨sd13z, hM⟩ := M.e_grd hM
  simp only [Bool.and_eq_true, decide_eq_true_eq] at sd13z
  refine s_val (x_ix (a := v_s) (b := I (s2 : Int)) (v := vat v_s 2 (Int.toNat (s2 : Int))) rfl rfl (Sl.ix (α := Dem) T62.und T62.size hs_s (by omega) (by omega))) ?_
  refine s_val (x_ld (p := vat v_s 2 (Int.toNat (s2 : Int))) (v := .agg #[I ((s.getD s2 default).spring), I ((s.getD s2 default).town)]) rfl (ld_ag Ag61 Sz61 (At.mono (Dem_atA hs_s (i := (s2 : Int)) (by omega) (by omega)) (hC_s.at H)))) ?_
  obtain ⟨r15z, hx14z, hM⟩ := M.e_bind hM
  refine s_callv (f := 107) rfl cf107 [.agg #[I ((s.getD s2 default).spring), I ((s.getD s2 default).town)]] rfl (zdc (s.getD s2 default) f2020200 f2020201 f2020202 f2020203 f2020204 f2020205 f2020206 (hC_f2020200.app _) hs_f2020200 (hC_f2020201.app _) hs_f2020201 (hC_f2020202.app _) hs_f2020202 (hC_f2020203.app _) hs_f2020203 (hC_f2020206.app _) hs_f2020206 (h_b_f202020.app _) (h_b_f2020.app _) (h_b_f20.app _) hx14z _ (H.gt 0)) ?_
  rintro vq w16z ⟨r2, Bs0_1, hr17z, hvq, H2_⟩
  subst hr17z
  subst vq
  try dsimp only at hM
  replace H := H.bk H2_
  clear H2_
  refine s_nil ?_
  refine W.cond r2 rfl (fun c18z => ?_) (fun c18z => ?_)
  ·replace hM := M.e_t hM c18z
   refine W.seq ?_
   refine W.region rfl ?_
   refine s_val (x_mv (v := I (s2 : Int)) rfl) ?_
   refine s_val (x_as (v := I (s2 : Int)) rfl) ?_
   refine s_nil ?_
   refine W.ret ?_
   have hX19z := M.e_inr hM hN11z
   subst hX19z
   replace hM := hk4z
   try dsimp only at hM
   have hr_ := M.e_pure hM
   exact ⟨_, resE_tmp rfl, ⟨(s2 : Int), Bs0_1, hr_, rfl, H⟩⟩
  replace hM := M.e_f hM c18z
  refine W.skip ?_
  refine W.region rfl ?_
  refine s_val (x_ari (a := (s2 : Int)) (b := 1) (r := (s2 : Int) + 1) rfl rfl rfl (by omega)) ?_
  refine s_val (x_mv (v := I ((s2 : Int) + 1)) rfl) ?_
  refine s_nil ?_
  exact ⟨m8z, lt9z, s2 + 1, Bs0_1, _, upds_of _ _ ⟨rfl, rfl, rfl, rfl, trivial⟩, M.e_inl hM hN11z, H⟩
 replace hM := M.e_f hM c12z
 simp only [decide_eq_true_eq, decide_eq_false_iff_not, beq_iff_eq, bne_iff_ne, beq_eq_false_iff_ne, bne_eq_false_iff_eq, ne_eq, Decidable.not_not] at c12z
 refine W.exit ?_
 have hX20z := M.e_inr hM hN11z
 subst hX20z
 replace hM := hk4z
 try dsimp only at hM
 refine W.seq ?_
 refine W.region rfl ?_
 refine s_val (x_as (v := I (-1)) rfl) ?_
 refine s_nil ?_
 refine W.ret ?_
 have hr_ := M.e_pure hM
 exact ⟨_, resE_tmp rfl, ⟨(-1), B_mem, hr_, rfl, H⟩⟩

def zcP (s : List Dem) (f2020200 : List Int) (f2020201 : List Span) (f2020202 : List Int) (f2020203 : List Town) (f2020204 : Int) (f2020205 : Int) (f2020206 : List Flood) : M Bool :=
  M.bind (zcK s f2020200 f2020201 f2020202 f2020203 f2020204 f2020205 f2020206) fun r2 =>
  M.pure (decide (0 <= r2))
theorem zdA {R : List Chunk} {C_s : Cells} {v_s : Value} {b_f20 : Nat} {b_f2020 : Nat} {b_f202020 : Nat} {C_f2020200 : Cells} {v_f2020200 : Value} {C_f2020201 : Cells} {v_f2020201 : Value} {C_f2020202 : Cells} {v_f2020202 : Value} {C_f2020203 : Cells} {v_f2020203 : Value} {C_f2020206 : Cells} {v_f2020206 : Value} {b_f2020207 : Nat} {B_b_f2020207 : Base} (s : List Dem) (f2020200 : List Int) (f2020201 : List Span) (f2020202 : List Int) (f2020203 : List Town) (f2020204 : Int) (f2020205 : Int) (f2020206 : List Flood) (hC_s : Reads R C_s) (hs_s : Sl C_s v_s s) (hC_f2020200 : Reads R C_f2020200) (hs_f2020200 : Sl C_f2020200 v_f2020200 f2020200) (hC_f2020201 : Reads R C_f2020201) (hs_f2020201 : Sl C_f2020201 v_f2020201 f2020201) (hC_f2020202 : Reads R C_f2020202) (hs_f2020202 : Sl C_f2020202 v_f2020202 f2020202) (hC_f2020203 : Reads R C_f2020203) (hs_f2020203 : Sl C_f2020203 v_f2020203 f2020203) (hC_f2020206 : Reads R C_f2020206) (hs_f2020206 : Sl C_f2020206 v_f2020206 f2020206) (h_b_f202020 : Has R (cBlk b_f202020 [v_f2020200, v_f2020201, v_f2020202, v_f2020203, I f2020204, I f2020205, v_f2020206, .map (some b_f2020207)] 111)) (h_b_f2020 : Has R (cBlk b_f2020 [.func (.func 81) #[.pointer (some ⟨b_f202020, 0, none⟩)] #[]] 134)) (h_b_f20 : Has R (cBlk b_f20 [.func (.func 101) #[] #[.pointer (some ⟨b_f2020, 0, none⟩)]] 133)) {r : Bool} (hM : (zcP s f2020200 f2020201 f2020202 f2020203 f2020204 f2020205 f2020206).Ends r) (w : World) (H : St w w [cMem encDm b_f2020207 B_b_f2020207 (zaa f2020200 f2020201 f2020202 f2020203 f2020204 f2020205 f2020206)] R) : Ret Tryz.prog 97 #[v_s, .func (.func 107) #[] #[.pointer (some ⟨b_f20, 0, none⟩)]] w fun v w' => ∃ (y0 : Bool) (Bs0 : Base), y0 = r /\ v = B y0 /\ St w w' [cMem encDm b_f2020207 Bs0 (zaa f2020200 f2020201 f2020202 f2020203 f2020204 f2020205 f2020206)] R := by
 refine ret_of_W Tryz.func97 rfl rfl rfl ?_
 refine W.seq ?_
 refine W.region rfl ?_
 refine s_val (x_as (v := B false) rfl) ?_
 refine s_nil ?_
 refine W.seq ?_
 refine W.region rfl ?_
 refine s_val (x_mv (v := v_s) rfl) ?_
 refine s_val (x_mv (v := .func (.func 107) #[] #[.pointer (some ⟨b_f20, 0, none⟩)]) rfl) ?_
 obtain ⟨r2z, hx1z, hM⟩ := M.e_bind hM
 refine s_call cf99 [v_s, .func (.func 107) #[] #[.pointer (some ⟨b_f20, 0, none⟩)]] rfl (zdd s f2020200 f2020201 f2020202 f2020203 f2020204 f2020205 f2020206 (hC_s.app _) hs_s (hC_f2020200.app _) hs_f2020200 (hC_f2020201.app _) hs_f2020201 (hC_f2020202.app _) hs_f2020202 (hC_f2020203.app _) hs_f2020203 (hC_f2020206.app _) hs_f2020206 (h_b_f202020.app _) (h_b_f2020.app _) (h_b_f20.app _) hx1z _ (H.gt 0)) ?_
 rintro vq w3z ⟨r2, Bs0_1, hr4z, hvq, H2_⟩
 subst hr4z
 subst vq
 try dsimp only at hM
 replace H := H.bk H2_
 clear H2_
 refine s_val (x_cmp (kd := .i64) (a := r2) (b := 0) (r := decide (0 <= r2)) rfl rfl rfl) ?_
 refine s_val (x_as (v := B (decide (0 <= r2))) rfl) ?_
 refine s_nil ?_
 refine W.ret ?_
 have hr_ := M.e_pure hM
 exact ⟨_, resE_tmp rfl, ⟨(decide (0 <= r2)), Bs0_1, hr_, rfl, H⟩⟩

def zcw (l : List Dem) (so20200 : List Int) (so20201 : List Span) (so20202 : List Int) (so20203 : List Town) (so20204 : Int) (so20205 : Int) (so20206 : List Flood) : M Bool :=
  M.bind (zcP l so20200 so20201 so20202 so20203 so20204 so20205 so20206) fun r2 =>
  M.pure (!r2)
theorem zdb {R : List Chunk} {C_l : Cells} {v_l : Value} {b_so20 : Nat} {b_so2020 : Nat} {C_so20200 : Cells} {v_so20200 : Value} {C_so20201 : Cells} {v_so20201 : Value} {C_so20202 : Cells} {v_so20202 : Value} {C_so20203 : Cells} {v_so20203 : Value} {C_so20206 : Cells} {v_so20206 : Value} {b_so20207 : Nat} {B_b_so20207 : Base} (l : List Dem) (so20200 : List Int) (so20201 : List Span) (so20202 : List Int) (so20203 : List Town) (so20204 : Int) (so20205 : Int) (so20206 : List Flood) (hC_l : Reads R C_l) (hs_l : Sl C_l v_l l) (hC_so20200 : Reads R C_so20200) (hs_so20200 : Sl C_so20200 v_so20200 so20200) (hC_so20201 : Reads R C_so20201) (hs_so20201 : Sl C_so20201 v_so20201 so20201) (hC_so20202 : Reads R C_so20202) (hs_so20202 : Sl C_so20202 v_so20202 so20202) (hC_so20203 : Reads R C_so20203) (hs_so20203 : Sl C_so20203 v_so20203 so20203) (hC_so20206 : Reads R C_so20206) (hs_so20206 : Sl C_so20206 v_so20206 so20206) (h_b_so2020 : Has R (cBlk b_so2020 [v_so20200, v_so20201, v_so20202, v_so20203, I so20204, I so20205, v_so20206, .map (some b_so20207)] 111)) (h_b_so20 : Has R (cBlk b_so20 [.func (.func 81) #[.pointer (some ⟨b_so2020, 0, none⟩)] #[]] 134)) {r : Bool} (hM : (zcw l so20200 so20201 so20202 so20203 so20204 so20205 so20206).Ends r) (w : World) (H : St w w [cMem encDm b_so20207 B_b_so20207 (zaa so20200 so20201 so20202 so20203 so20204 so20205 so20206)] R) : Ret Tryz.prog 90 #[v_l, .func (.func 101) #[] #[.pointer (some ⟨b_so20, 0, none⟩)]] w fun v w' => ∃ (y0 : Bool) (Bs0 : Base), y0 = r /\ v = B y0 /\ St w w' [cMem encDm b_so20207 Bs0 (zaa so20200 so20201 so20202 so20203 so20204 so20205 so20206)] R := by
 refine ret_of_W Tryz.func90 rfl rfl rfl ?_
 refine W.seq ?_
 refine W.region rfl ?_
 refine t_box (v := .func (.func 101) #[] #[.pointer (some ⟨b_so20, 0, none⟩)]) (cs := [.func (.func 101) #[] #[.pointer (some ⟨b_so20, 0, none⟩)]]) H rfl rfl ?_
 intro b_1 w1z H
 refine s_val (x_as (v := B false) rfl) ?_
 refine s_nil ?_
 refine W.seq ?_
 refine W.region rfl ?_
 refine s_val (x_mv (v := v_l) rfl) ?_
 refine s_val (x_mf (fs := []) (cs := [.pointer (some ⟨b_1, 0, none⟩)]) rfl rfl) ?_
 obtain ⟨r3z, hx2z, hM⟩ := M.e_bind hM
 refine s_call cf97 [v_l, .func (.func 107) #[] #[.pointer (some ⟨b_1, 0, none⟩)]] rfl (zdA l so20200 so20201 so20202 so20203 so20204 so20205 so20206 (hC_l.app _) hs_l (hC_so20200.app _) hs_so20200 (hC_so20201.app _) hs_so20201 (hC_so20202.app _) hs_so20202 (hC_so20203.app _) hs_so20203 (hC_so20206.app _) hs_so20206 (h_b_so2020.app _) (h_b_so20.app _) (Has.here (k := 0) rfl) hx2z _ ((H.pk [1, 0]).gt 1)) ?_
 rintro vq w4z ⟨r2, Bs0_2, hr5z, hvq, H2_⟩
 subst hr5z
 subst vq
 try dsimp only at hM
 replace H := H.pk [1, 0] |>.bk H2_
 clear H2_
 refine s_val (x_not (b := r2) rfl) ?_
 refine s_val (x_as (v := B (!r2)) rfl) ?_
 refine s_nil ?_
 refine W.ret ?_
 have hr_ := M.e_pure hM
 exact ⟨_, resE_tmp rfl, ⟨(!r2), Bs0_2, hr_, rfl, (H.pk [0])⟩⟩

def zaX : Int -> (Int × Int) -> M (Int ⊕ Unit) := fun s (x, x2) =>
  M.grd (decide ((-9223372036854775808 : Int) <= (s + 1)) && decide ((s + 1) <= (9223372036854775807 : Int))) <|
  M.pure (.inl (s + 1))
def zbz (d : Dem) (k0200 : List Int) (k0201 : List Span) (k0202 : List Int) (k0203 : List Town) (k0204 : Int) (k0205 : Int) (k0206 : List Flood) (k120 : List Int) (k121 : List Span) (k122 : List Int) (k123 : List Town) (k124 : Int) (k125 : Int) (k126 : List Flood) : M Int :=
  M.bind (zaa k0200 k0201 k0202 k0203 k0204 k0205 k0206 d) fun r2 =>
  M.grd (decide ((0 : Int) <= ((r2.length : Int) - 1)) && decide (((r2.length : Int) - 1) < (r2.length : Int))) <|
  M.bind (zak k120 k121 k122 k123 k124 k125 k126 (r2.getD (Int.toNat ((r2.length : Int) - 1)) 0)) fun (r00, r14, r15) =>
  M.bind (zan (M.yl zaX) (.inl 0) r00 k120 k121 k122 k123 r14 r15 k126) fun x_ => match x_ with
  | (.inl s, q0) => (
  M.pure s)
  | (.inr _, _) => M.fail
theorem zcB {R : List Chunk} {b_k0 : Nat} {b_k020 : Nat} {C_k0200 : Cells} {v_k0200 : Value} {C_k0201 : Cells} {v_k0201 : Value} {C_k0202 : Cells} {v_k0202 : Value} {C_k0203 : Cells} {v_k0203 : Value} {C_k0206 : Cells} {v_k0206 : Value} {b_k0207 : Nat} {B_b_k0207 : Base} {b_k1 : Nat} {b_k12 : Nat} {C_k120 : Cells} {v_k120 : Value} {C_k121 : Cells} {v_k121 : Value} {C_k122 : Cells} {v_k122 : Value} {C_k123 : Cells} {v_k123 : Value} {C_k126 : Cells} {v_k126 : Value} {b_k127 : Nat} (d : Dem) (k0200 : List Int) (k0201 : List Span) (k0202 : List Int) (k0203 : List Town) (k0204 : Int) (k0205 : Int) (k0206 : List Flood) (k120 : List Int) (k121 : List Span) (k122 : List Int) (k123 : List Town) (k124 : Int) (k125 : Int) (k126 : List Flood) (hC_k0200 : Reads R C_k0200) (hs_k0200 : Sl C_k0200 v_k0200 k0200) (hC_k0201 : Reads R C_k0201) (hs_k0201 : Sl C_k0201 v_k0201 k0201) (hC_k0202 : Reads R C_k0202) (hs_k0202 : Sl C_k0202 v_k0202 k0202) (hC_k0203 : Reads R C_k0203) (hs_k0203 : Sl C_k0203 v_k0203 k0203) (hC_k0206 : Reads R C_k0206) (hs_k0206 : Sl C_k0206 v_k0206 k0206) (h_b_k020 : Has R (cBlk b_k020 [v_k0200, v_k0201, v_k0202, v_k0203, I k0204, I k0205, v_k0206, .map (some b_k0207)] 111)) (h_b_k0 : Has R (cBlk b_k0 [.func (.func 81) #[.pointer (some ⟨b_k020, 0, none⟩)] #[]] 134)) (hC_k120 : Reads R C_k120) (hs_k120 : Sl C_k120 v_k120 k120) (hC_k121 : Reads R C_k121) (hs_k121 : Sl C_k121 v_k121 k121) (hC_k122 : Reads R C_k122) (hs_k122 : Sl C_k122 v_k122 k122) (hC_k123 : Reads R C_k123) (hs_k123 : Sl C_k123 v_k123 k123) (hC_k126 : Reads R C_k126) (hs_k126 : Sl C_k126 v_k126 k126) (h_b_k12 : Has R (cBlk b_k12 [v_k120, v_k121, v_k122, v_k123, I k124, I k125, v_k126, .map (some b_k127)] 111)) (h_b_k1 : Has R (cBlk b_k1 [.pointer (some ⟨b_k12, 0, none⟩)] 94)) {r : Int} (hM : (zbz d k0200 k0201 k0202 k0203 k0204 k0205 k0206 k120 k121 k122 k123 k124 k125 k126).Ends r) (w : World) (H : St w w [cMem encDm b_k0207 B_b_k0207 (zaa k0200 k0201 k0202 k0203 k0204 k0205 k0206)] R) : Ret Tryz.prog 102 #[.agg #[I d.spring, I d.town], .pointer (some ⟨b_k0, 0, none⟩), .pointer (some ⟨b_k1, 0, none⟩)] w fun v w' => ∃ (y0 : Int) (Bs0 : Base), y0 = r /\ v = I y0 /\ St w w' [cMem encDm b_k0207 Bs0 (zaa k0200 k0201 k0202 k0203 k0204 k0205 k0206)] R := by
 refine ret_of_WD Tryz.func102 rfl rfl rfl ?_
 replace H : St w w [cMk ([]), cMem encDm b_k0207 B_b_k0207 (zaa k0200 k0201 k0202 k0203 k0204 k0205 k0206)] R := H.mk0
 have hl_k0200 := hs_k0200.len_le
 have hl_k0201 := hs_k0201.len_le
 have hl_k0202 := hs_k0202.len_le
 have hl_k0203 := hs_k0203.len_le
 have hl_k0206 := hs_k0206.len_le
 have hl_k120 := hs_k120.len_le
 have hl_k121 := hs_k121.len_le
 have hl_k122 := hs_k122.len_le
 have hl_k123 := hs_k123.len_le
 have hl_k126 := hs_k126.len_le
 unfold zbz at hM
 refine WD.seq ?_
 refine WD.of ?_
 refine W.region rfl ?_
 refine t_box (v := .agg #[I d.spring, I d.town]) (cs := [I d.spring, I d.town]) H rfl rfl ?_
 intro b_1 w1z H
 refine s_val (x_as (v := I 0) rfl) ?_
 refine s_nil ?_
 refine WD.seq ?_
 refine WD.of ?_
 refine W.region rfl ?_
 refine s_val (x_ld (p := .pointer (some ⟨b_k0, 0, none⟩)) (v := .func (.func 81) #[.pointer (some ⟨b_k020, 0, none⟩)] #[]) rfl (ldb_sc Sc134 (h_b_k0.blk H) rfl)) ?_
 refine s_val (x_ld (p := .pointer (some ⟨b_1, 0, none⟩)) (v := .agg #[I d.spring, I d.town]) rfl (ldb_ag (ds := [I d.spring, I d.town]) Ag61 Sz61 (H.blk (k := 0) rfl) rfl rfl)) ?_
 obtain ⟨r3z, hx2z, hM⟩ := M.e_bind hM
 refine s_callm (f := 81) (fs := [.pointer (some ⟨b_k020, 0, none⟩)]) rfl cf81 [.agg #[I d.spring, I d.town]] rfl (zbC k0200 k0201 k0202 k0203 k0204 k0205 k0206 d (hC_k0200.app _) hs_k0200 (hC_k0201.app _) hs_k0201 (hC_k0202.app _) hs_k0202 (hC_k0203.app _) hs_k0203 (hC_k0206.app _) hs_k0206 (h_b_k020.app _) hx2z _ ((H.pk [2, 0, 1]).gt 2)) ?_
 rintro vq w4z ⟨r2, u0_2, Bs1_3, hr5z, hvq, H2_, hf6z⟩
 subst hr5z
 subst vq
 try dsimp only at hM
 replace H := H.pk [2, 0, 1] |>.bk H2_
 clear H2_
 refine s_val (x_as (v := u0_2) rfl) ?_
 refine s_nil ?_
 refine WD.seq ?_
 refine WD.of ?_
 refine W.region rfl ?_
 refine t_alloc (cs := [I 0]) H Al3 rfl ?_
 intro b_4 w7z H
 refine t_sw 0 0 [I 0] (I 0) H rfl rfl Sz3 rfl rfl rfl rfl ?_
 intro w8z H
 refine s_nil ?_
 refine WD.seq ?_
 refine WD.seq ?_
 refine WD.of ?_
 refine W.draw (fun W => St w W [cBlk b_4 [I 0] 3, cMem encDm b_k0207 Bs1_3 (zaa k0200 k0201 k0202 k0203 k0204 k0205 k0206), cBlk b_1 [I d.spring, I d.town] 61, cMk ([])] R) [(0, true), (1, true), (2, true), (3, true), (4, true), (5, true), (6, true), (7, true), (8, true), (9, true), (10, false)] mixed (by decide +kernel) rfl ?_
 intro w9z hx_
 replace H := H.ext hx_
 clear hx_
 refine ⟨(H.pk [0, 1, 2, 3]), ?_⟩
 refine d_q rfl (fun w' H => x_ld (p := .pointer (some ⟨b_k1, 0, none⟩)) (v := .pointer (some ⟨b_k12, 0, none⟩)) rfl (ldb_sc Sc94 (h_b_k1.blk H) rfl)) ?_
 refine d_q rfl (fun w' H => x_nc (a := ⟨b_k12, 0, none⟩) rfl) ?_
 refine d_q rfl (fun w' H => x_fa (a := .pointer (some ⟨b_k12, 0, none⟩)) (v := .pointer (some ⟨b_k12, 0, none⟩)) rfl (fa_blk (o := 0) Fd111_0 Sz29)) ?_
 refine d_q rfl (fun w' H => x_ld (p := .pointer (some ⟨b_k12, 0, none⟩)) (v := .agg #[v_k120, v_k121, v_k122, v_k123, I k124, I k125, v_k126]) rfl (ldb_ag (ds := [v_k120, v_k121, v_k122, v_k123, I k124, I k125, v_k126]) Ag29 Sz29 (h_b_k12.blk H) rfl rfl)) ?_
 refine d_q rfl (fun w' H => x_mv (v := u0_2) rfl) ?_
 refine d_q rfl (fun w' H => x_mv (v := u0_2) rfl) ?_
 have hl10z := (hf6z).len_le
 refine d_q rfl (fun w' H => x_lenS T22.und rfl hf6z) ?_
 refine d_q rfl (fun w' H => x_ari (a := (r2.length : Int)) (b := 1) (r := (r2.length : Int) - 1) rfl rfl rfl (by omega)) ?_
 obtain ⟨sd11z, hM⟩ := M.e_grd hM
 simp only [Bool.and_eq_true, decide_eq_true_eq] at sd11z
 refine d_q rfl (fun w' H => x_ix (a := u0_2) (b := I ((r2.length : Int) - 1)) (v := vat u0_2 1 (Int.toNat ((r2.length : Int) - 1))) rfl rfl (Sl.ix (α := Int) T22.und T22.size hf6z (by omega) (by omega))) ?_
 refine d_q rfl (fun w' H => x_ld (p := vat u0_2 1 (Int.toNat ((r2.length : Int) - 1))) (v := I (r2.getD (Int.toNat ((r2.length : Int) - 1)) 0)) rfl (ld_sc Sc3 (At.mono (Int_at hf6z (i := (r2.length : Int) - 1) (by omega) (by omega)) (memLe _ (H.get (k := 1) rfl))))) ?_
 refine d_l rfl ?_
 obtain ⟨r13z, hx12z, hM⟩ := M.e_bind hM
 refine s_call cf66 [.agg #[v_k120, v_k121, v_k122, v_k123, I k124, I k125, v_k126], I (r2.getD (Int.toNat ((r2.length : Int) - 1)) 0)] rfl (za2 k120 k121 k122 k123 k124 k125 k126 (r2.getD (Int.toNat ((r2.length : Int) - 1)) 0) (hC_k120.app _) hs_k120 (hC_k121.app _) hs_k121 (hC_k122.app _) hs_k122 (hC_k123.app _) hs_k123 (hC_k126.app _) hs_k126 hx12z _ (H.gt 4)) ?_
 rintro vq w14z ⟨r00, r14, r15, nb0_5, nb1_6, hr15z, hvq, H2_⟩
 subst hr15z
 subst vq
 try dsimp only at hM
 replace H := H.bk H2_
 clear H2_
 refine s_nil ⟨(H.pk [2, 3, 4, 5]), ?_⟩
 refine d_nil ?_
 refine WD.block ?_
 obtain ⟨t16z, hx17z, hM⟩ := M.e_bind hM
 refine WD.range (L := [cBlk b_4 [I 0] 3, cBlk nb1_6 [v_k120, v_k121, v_k122, v_k123, I r14, I r15, v_k126] 29, cMem encDm b_k0207 Bs1_3 (zaa k0200 k0201 k0202 k0203 k0204 k0205 k0206), cBlk b_1 [I d.spring, I d.town] 61, cBlk nb0_5 [I r00] 3]) [.pointer (some ⟨nb0_5, 0, none⟩), .pointer (some ⟨nb1_6, 0, none⟩)] (H.pk [5, 2, 1, 3, 4, 0]) rfl cf96 ?_
 intro l18z D19z r20z w21z hr22z H
 have hYC : YieldC Tryz.prog ([cMk (D19z :: ([])), cBlk nb1_6 [v_k120, v_k121, v_k122, v_k123, I r14, I r15, v_k126] 29, cMem encDm b_k0207 Bs1_3 (zaa k0200 k0201 k0202 k0203 k0204 k0205 k0206), cBlk b_1 [I d.spring, I d.town] 61] ++ R) arII (yJ l18z r20z (fun s Ls_ => Ls_ = [cBlk b_4 [I s] 3]) (fun (_ : Unit) _ => False) (fun _ => .ret)) (.func (.yield l18z) #[] #[]) (M.yl zaX) := by
  refine YieldC.mk hr22z (fun s Ls_ => Ls_ = [cBlk b_4 [I s] 3]) (fun (_ : Unit) _ => False) (fun _ => .ret) zaX (by rintro s _ h_; obtain ⟨rfl⟩ := h_; rfl) (fun _ _ h_ => h_.elim) rfl (arII_len rfl) ?_
  intro C_ vs_ x_ W_ hA_
  obtain ⟨x, x2⟩ := x_
  obtain rfl := hA_
  refine W.skip ?_
  refine ⟨rfl, rfl, ?_⟩
  intro w R hR_ Ls_ s_ r hY_ hM H
  skip
  obtain ⟨s, hs_eq_⟩ : ∃ y_, y_ = s_ := ⟨_, rfl⟩
  subst hs_eq_
  obtain ⟨rfl⟩ := hY_
  replace hC_k0200 := hC_k0200.sub hR_
  replace hC_k0201 := hC_k0201.sub hR_
  replace hC_k0202 := hC_k0202.sub hR_
  replace hC_k0203 := hC_k0203.sub hR_
  replace hC_k0206 := hC_k0206.sub hR_
  replace h_b_k020 := h_b_k020.sub hR_
  replace h_b_k0 := h_b_k0.sub hR_
  replace hC_k120 := hC_k120.sub hR_
  replace hC_k121 := hC_k121.sub hR_
  replace hC_k122 := hC_k122.sub hR_
  replace hC_k123 := hC_k123.sub hR_
  replace hC_k126 := hC_k126.sub hR_
  replace h_b_k12 := h_b_k12.sub hR_
  replace h_b_k1 := h_b_k1.sub hR_
  replace hM : (zaX s (x, x2)).Ends r := hM
  simp only [zaX] at hM
  replace H := H.pk [0, 2, 3, 4, 1]
  refine W.block ?_
  refine W.region rfl ?_
  refine s_val (x_ld (p := .pointer (some ⟨b_4, 0, none⟩)) (v := I s) rfl (ldb_sc Sc3 (H.blk (k := 0) rfl) rfl)) ?_
  obtain ⟨sd23z, hM⟩ := M.e_grd hM
  simp only [Bool.and_eq_true, decide_eq_true_eq] at sd23z
  refine s_val (x_ari (a := s) (b := 1) (r := s + 1) rfl rfl rfl (by omega)) ?_
  refine t_sw 0 0 [I (s + 1)] (I (s + 1)) H rfl rfl Sz3 rfl rfl rfl rfl ?_
  intro w24z H
  refine s_nil ?_
  exact ⟨s + 1, [cBlk b_4 [I (s + 1)] 3], (M.e_pure hM).symm, rfl, H.pick [0, 4, 1, 2, 3] (by decide) rfl⟩
 replace H : St w w21z (cAll (cObj l18z (.loop r20z) :: [cBlk b_4 [I 0] 3]) :: [cBlk nb0_5 [I r00] 3, cMk (D19z :: ([])), cBlk nb1_6 [v_k120, v_k121, v_k122, v_k123, I r14, I r15, v_k126] 29, cMem encDm b_k0207 Bs1_3 (zaa k0200 k0201 k0202 k0203 k0204 k0205 k0206), cBlk b_1 [I d.spring, I d.town] 61]) R := St.bundleB (A := cObj l18z (.loop r20z) :: [cBlk b_4 [I 0] 3]) (T := [cBlk nb0_5 [I r00] 3, cMk (D19z :: ([])), cBlk nb1_6 [v_k120, v_k121, v_k122, v_k123, I r14, I r15, v_k126] 29, cMem encDm b_k0207 Bs1_3 (zaa k0200 k0201 k0202 k0203 k0204 k0205 k0206), cBlk b_1 [I d.spring, I d.town] 61]) rfl (H.pk [0, 2, 6, 1, 3, 4, 5])
 refine (za3 (M.yl zaX) (.inl 0) r00 k120 k121 k122 k123 r14 r15 k126 hYC ⟨_, rfl, rfl⟩ (hC_k120.app _) hs_k120 (hC_k121.app _) hs_k121 (hC_k122.app _) hs_k122 (hC_k123.app _) hs_k123 (hC_k126.app _) hs_k126 (Has.here (k := 1) rfl) hx17z _ (H.gt 4)).mono ?_
 rintro vq w25z ⟨t29z, q0, Ls27z, hq30z, hvq, H2_, hY28z⟩
 subst hq30z
 replace H := H.back H2_ rfl
 clear H2_ hYC
 rcases t29z with s | _
 ·try dsimp only at hM
  obtain ⟨_, rfl, rfl⟩ := hY28z
  refine ⟨_, [cBlk b_4 [I s] 3, cBlk nb1_6 [v_k120, v_k121, v_k122, v_k123, I r14, I r15, v_k126] 29, cMem encDm b_k0207 Bs1_3 (zaa k0200 k0201 k0202 k0203 k0204 k0205 k0206), cBlk b_1 [I d.spring, I d.town] 61, cBlk nb0_5 [I q0] 3], H.unbundle.pick [0, 3, 1, 4, 5, 6, 2] (by decide) rfl, hr22z.nb, ?_⟩
  intro w26z H
  rw [hr22z.pd]
  replace H := H.nf
  try simp only []
  replace H := H.pk [0, 1, 3]
  refine WD.seq ?_
  refine WD.of ?_
  refine W.region rfl ?_
  refine s_val (x_ld (p := .pointer (some ⟨b_4, 0, none⟩)) (v := I s) rfl (ldb_sc Sc3 (H.blk (k := 1) rfl) rfl)) ?_
  refine s_val (x_as (v := I s) rfl) ?_
  refine s_nil ?_
  refine WD.of ?_
  refine W.ret ?_
  refine bodyD_r (H.pk [0, 1, 2]) ?_
  intro w31z H
  replace H := H.nf
  have hr_ := M.e_pure hM
  exact ⟨_, resE_tmp rfl, ⟨s, Bs1_3, hr_, rfl, (H.pk [1])⟩⟩
 obtain ⟨_, _, h_⟩ := hY28z; exact h_.elim

def m_cmp_isNaN_int (x : Int) : M Bool :=
  M.pure (x != x)
theorem cmp_isNaN_int_ok {R : List Chunk}  (x : Int)  {r : Bool} (hM : (m_cmp_isNaN_int x).Ends r) (w : World) (H : St w w [] R) : Ret Tryz.prog 110 #[I x] w fun v w' => ∃ (y0 : Bool), y0 = r /\ v = B y0 /\ St w w' [] R := by
 refine ret_of_W Tryz.func110 rfl rfl rfl ?_
 refine W.seq ?_
 refine W.region rfl ?_
 refine s_val (x_as (v := B false) rfl) ?_
 refine s_nil ?_
 refine W.seq ?_
 refine W.region rfl ?_
 refine s_val (x_mv (v := I x) rfl) ?_
 refine s_val (x_mv (v := I x) rfl) ?_
 refine s_val (x_cmp (kd := .i64) (a := x) (b := x) (r := x != x) rfl rfl rfl) ?_
 refine s_val (x_as (v := B (x != x)) rfl) ?_
 refine s_nil ?_
 refine W.ret ?_
 have hr_ := M.e_pure hM
 exact ⟨_, resE_tmp rfl, ⟨(x != x), hr_, rfl, H⟩⟩

def m_cmp_Compare_int (x : Int) (y : Int) : M Int :=
  M.bind (m_cmp_isNaN_int x) fun r2 =>
  M.bind (m_cmp_isNaN_int y) fun r3 =>
  bif r2 then (
  bif r3 then (
  M.pure 0)
  else (
  M.pure (-1)))
  else (
  bif r3 then (
  M.pure 1)
  else (
  bif decide (x < y) then (
  M.pure (-1))
  else (
  bif decide (y < x) then (
  M.pure 1)
  else (
  M.pure 0))))
theorem cmp_Compare_int_ok {R : List Chunk}  (x : Int) (y : Int)  {r : Int} (hM : (m_cmp_Compare_int x y).Ends r) (w : World) (H : St w w [] R) : Ret Tryz.prog 105 #[I x, I y] w fun v w' => ∃ (y0 : Int), y0 = r /\ v = I y0 /\ St w w' [] R := by
 refine ret_of_W Tryz.func105 rfl rfl rfl ?_
 refine W.seq ?_
 refine W.region rfl ?_
 refine s_val (x_as (v := I 0) rfl) ?_
 refine s_nil ?_
 refine W.seq ?_
 refine W.region rfl ?_
 refine s_val (x_mv (v := I x) rfl) ?_
 obtain ⟨r2z, hx1z, hM⟩ := M.e_bind hM
 refine s_call cf110 [I x] rfl (cmp_isNaN_int_ok x hx1z _ (H.gt 0)) ?_
 rintro vq w3z ⟨r2, hr4z, hvq, H2_⟩
 subst hr4z
 subst vq
 try dsimp only at hM
 replace H := H.bk H2_
 clear H2_
 refine s_val (x_as (v := B r2) rfl) ?_
 refine s_nil ?_
 refine W.seq ?_
 refine W.region rfl ?_
 refine s_val (x_mv (v := I y) rfl) ?_
 obtain ⟨r6z, hx5z, hM⟩ := M.e_bind hM
 refine s_call cf110 [I y] rfl (cmp_isNaN_int_ok y hx5z _ (H.gt 0)) ?_
 rintro vq w7z ⟨r3, hr8z, hvq, H2_⟩
 subst hr8z
 subst vq
 try dsimp only at hM
 replace H := H.bk H2_
 clear H2_
 refine s_val (x_as (v := B r3) rfl) ?_
 refine s_nil ?_
 refine W.seq ?_
 refine W.seq ?_
 refine W.region rfl ?_
 refine s_val (x_mv (v := B r2) rfl) ?_
 refine s_nil ?_
 refine W.cond r2 rfl (fun c9z => ?_) (fun c9z => ?_)
 ·replace hM := M.e_t hM c9z
  refine W.seq ?_
  refine W.seq ?_
  refine W.region rfl ?_
  refine s_val (x_mv (v := B r3) rfl) ?_
  refine s_nil ?_
  refine W.cond r3 rfl (fun c10z => ?_) (fun c10z => ?_)
  ·replace hM := M.e_t hM c10z
   refine W.seq ?_
   refine W.region rfl ?_
   refine s_val (x_as (v := I 0) rfl) ?_
   refine s_nil ?_
   refine W.ret ?_
   have hr_ := M.e_pure hM
   exact ⟨_, resE_tmp rfl, ⟨0, hr_, rfl, H⟩⟩
  replace hM := M.e_f hM c10z
  refine W.skip ?_
  refine W.seq ?_
  refine W.region rfl ?_
  refine s_val (x_as (v := I (-1)) rfl) ?_
  refine s_nil ?_
  refine W.ret ?_
  have hr_ := M.e_pure hM
  exact ⟨_, resE_tmp rfl, ⟨(-1), hr_, rfl, H⟩⟩
 replace hM := M.e_f hM c9z
 refine W.skip ?_
 refine W.seq ?_
 refine W.seq ?_
 refine W.region rfl ?_
 refine s_val (x_mv (v := B r3) rfl) ?_
 refine s_nil ?_
 refine W.cond r3 rfl (fun c11z => ?_) (fun c11z => ?_)
 ·replace hM := M.e_t hM c11z
  refine W.seq ?_
  refine W.region rfl ?_
  refine s_val (x_as (v := I 1) rfl) ?_
  refine s_nil ?_
  refine W.ret ?_
  have hr_ := M.e_pure hM
  exact ⟨_, resE_tmp rfl, ⟨1, hr_, rfl, H⟩⟩
 replace hM := M.e_f hM c11z
 refine W.skip ?_
 refine W.seq ?_
 refine W.seq ?_
 refine W.region rfl ?_
 refine s_val (x_mv (v := I x) rfl) ?_
 refine s_val (x_mv (v := I y) rfl) ?_
 refine s_val (x_cmp (kd := .i64) (a := x) (b := y) (r := decide (x < y)) rfl rfl rfl) ?_
 refine s_nil ?_
 refine W.cond (decide (x < y)) rfl (fun c12z => ?_) (fun c12z => ?_)
 ·replace hM := M.e_t hM c12z
  simp only [decide_eq_true_eq, decide_eq_false_iff_not, beq_iff_eq, bne_iff_ne, beq_eq_false_iff_ne, bne_eq_false_iff_eq, ne_eq, Decidable.not_not] at c12z
  refine W.seq ?_
  refine W.region rfl ?_
  refine s_val (x_as (v := I (-1)) rfl) ?_
  refine s_nil ?_
  refine W.ret ?_
  have hr_ := M.e_pure hM
  exact ⟨_, resE_tmp rfl, ⟨(-1), hr_, rfl, H⟩⟩
 replace hM := M.e_f hM c12z
 simp only [decide_eq_true_eq, decide_eq_false_iff_not, beq_iff_eq, bne_iff_ne, beq_eq_false_iff_ne, bne_eq_false_iff_eq, ne_eq, Decidable.not_not] at c12z
 refine W.skip ?_
 refine W.seq ?_
 refine W.seq ?_
 refine W.region rfl ?_
 refine s_val (x_mv (v := I x) rfl) ?_
 refine s_val (x_mv (v := I y) rfl) ?_
 refine s_val (x_cmp (kd := .i64) (a := x) (b := y) (r := decide (y < x)) rfl rfl rfl) ?_
 refine s_nil ?_
 refine W.cond (decide (y < x)) rfl (fun c13z => ?_) (fun c13z => ?_)
 ·replace hM := M.e_t hM c13z
  simp only [decide_eq_true_eq, decide_eq_false_iff_not, beq_iff_eq, bne_iff_ne, beq_eq_false_iff_ne, bne_eq_false_iff_eq, ne_eq, Decidable.not_not] at c13z
  refine W.seq ?_
  refine W.region rfl ?_
  refine s_val (x_as (v := I 1) rfl) ?_
  refine s_nil ?_
  refine W.ret ?_
  have hr_ := M.e_pure hM
  exact ⟨_, resE_tmp rfl, ⟨1, hr_, rfl, H⟩⟩
 replace hM := M.e_f hM c13z
 simp only [decide_eq_true_eq, decide_eq_false_iff_not, beq_iff_eq, bne_iff_ne, beq_eq_false_iff_ne, bne_eq_false_iff_eq, ne_eq, Decidable.not_not] at c13z
 refine W.skip ?_
 refine W.seq ?_
 refine W.region rfl ?_
 refine s_val (x_as (v := I 0) rfl) ?_
 refine s_nil ?_
 refine W.ret ?_
 have hr_ := M.e_pure hM
 exact ⟨_, resE_tmp rfl, ⟨0, hr_, rfl, H⟩⟩

def zcN (a : Dem) (b : Dem) (k020200 : List Int) (k020201 : List Span) (k020202 : List Int) (k020203 : List Town) (k020204 : Int) (k020205 : Int) (k020206 : List Flood) (k02120 : List Int) (k02121 : List Span) (k02122 : List Int) (k02123 : List Town) (k02124 : Int) (k02125 : Int) (k02126 : List Flood) : M Int :=
  M.bind (zbz b k020200 k020201 k020202 k020203 k020204 k020205 k020206 k02120 k02121 k02122 k02123 k02124 k02125 k02126) fun r2 =>
  M.bind (zbz a k020200 k020201 k020202 k020203 k020204 k020205 k020206 k02120 k02121 k02122 k02123 k02124 k02125 k02126) fun r3 =>
  M.bind (m_cmp_Compare_int r2 r3) fun r4 =>
  M.pure r4
theorem zc9 {R : List Chunk} {b_k0 : Nat} {b_k020 : Nat} {b_k02020 : Nat} {C_k020200 : Cells} {v_k020200 : Value} {C_k020201 : Cells} {v_k020201 : Value} {C_k020202 : Cells} {v_k020202 : Value} {C_k020203 : Cells} {v_k020203 : Value} {C_k020206 : Cells} {v_k020206 : Value} {b_k020207 : Nat} {B_b_k020207 : Base} {b_k021 : Nat} {b_k0212 : Nat} {C_k02120 : Cells} {v_k02120 : Value} {C_k02121 : Cells} {v_k02121 : Value} {C_k02122 : Cells} {v_k02122 : Value} {C_k02123 : Cells} {v_k02123 : Value} {C_k02126 : Cells} {v_k02126 : Value} {b_k02127 : Nat} (a : Dem) (b : Dem) (k020200 : List Int) (k020201 : List Span) (k020202 : List Int) (k020203 : List Town) (k020204 : Int) (k020205 : Int) (k020206 : List Flood) (k02120 : List Int) (k02121 : List Span) (k02122 : List Int) (k02123 : List Town) (k02124 : Int) (k02125 : Int) (k02126 : List Flood) (hC_k020200 : Reads R C_k020200) (hs_k020200 : Sl C_k020200 v_k020200 k020200) (hC_k020201 : Reads R C_k020201) (hs_k020201 : Sl C_k020201 v_k020201 k020201) (hC_k020202 : Reads R C_k020202) (hs_k020202 : Sl C_k020202 v_k020202 k020202) (hC_k020203 : Reads R C_k020203) (hs_k020203 : Sl C_k020203 v_k020203 k020203) (hC_k020206 : Reads R C_k020206) (hs_k020206 : Sl C_k020206 v_k020206 k020206) (h_b_k02020 : Has R (cBlk b_k02020 [v_k020200, v_k020201, v_k020202, v_k020203, I k020204, I k020205, v_k020206, .map (some b_k020207)] 111)) (h_b_k020 : Has R (cBlk b_k020 [.func (.func 81) #[.pointer (some ⟨b_k02020, 0, none⟩)] #[]] 134)) (hC_k02120 : Reads R C_k02120) (hs_k02120 : Sl C_k02120 v_k02120 k02120) (hC_k02121 : Reads R C_k02121) (hs_k02121 : Sl C_k02121 v_k02121 k02121) (hC_k02122 : Reads R C_k02122) (hs_k02122 : Sl C_k02122 v_k02122 k02122) (hC_k02123 : Reads R C_k02123) (hs_k02123 : Sl C_k02123 v_k02123 k02123) (hC_k02126 : Reads R C_k02126) (hs_k02126 : Sl C_k02126 v_k02126 k02126) (h_b_k0212 : Has R (cBlk b_k0212 [v_k02120, v_k02121, v_k02122, v_k02123, I k02124, I k02125, v_k02126, .map (some b_k02127)] 111)) (h_b_k021 : Has R (cBlk b_k021 [.pointer (some ⟨b_k0212, 0, none⟩)] 94)) (h_b_k0 : Has R (cBlk b_k0 [.func (.func 102) #[] #[.pointer (some ⟨b_k020, 0, none⟩), .pointer (some ⟨b_k021, 0, none⟩)]] 146)) {r : Int} (hM : (zcN a b k020200 k020201 k020202 k020203 k020204 k020205 k020206 k02120 k02121 k02122 k02123 k02124 k02125 k02126).Ends r) (w : World) (H : St w w [cMem encDm b_k020207 B_b_k020207 (zaa k020200 k020201 k020202 k020203 k020204 k020205 k020206)] R) : Ret Tryz.prog 104 #[.agg #[I a.spring, I a.town], .agg #[I b.spring, I b.town], .pointer (some ⟨b_k0, 0, none⟩)] w fun v w' => ∃ (y0 : Int) (Bs0 : Base), y0 = r /\ v = I y0 /\ St w w' [cMem encDm b_k020207 Bs0 (zaa k020200 k020201 k020202 k020203 k020204 k020205 k020206)] R := by
 refine ret_of_W Tryz.func104 rfl rfl rfl ?_
 refine W.seq ?_
 refine W.region rfl ?_
 refine t_box (v := .agg #[I a.spring, I a.town]) (cs := [I a.spring, I a.town]) H rfl rfl ?_
 intro b_1 w1z H
 refine t_box (v := .agg #[I b.spring, I b.town]) (cs := [I b.spring, I b.town]) H rfl rfl ?_
 intro b_2 w2z H
 refine s_val (x_as (v := I 0) rfl) ?_
 refine s_nil ?_
 refine W.seq ?_
 refine W.draw (fun W => St w W [cBlk b_2 [I b.spring, I b.town] 61, cBlk b_1 [I a.spring, I a.town] 61] R) [(0, true), (1, true), (3, true), (4, true), (2, false), (5, false), (6, false), (7, true)] mixed (by decide +kernel) rfl ?_
 intro w3z hx_
 replace H := H.ext hx_
 clear hx_
 refine ⟨(H.pk [0, 1]), ?_⟩
 refine d_q rfl (fun w' H => x_ld (p := .pointer (some ⟨b_k0, 0, none⟩)) (v := .func (.func 102) #[] #[.pointer (some ⟨b_k020, 0, none⟩), .pointer (some ⟨b_k021, 0, none⟩)]) rfl (ldb_sc Sc146 (h_b_k0.blk H) rfl)) ?_
 refine d_q rfl (fun w' H => x_ld (p := .pointer (some ⟨b_2, 0, none⟩)) (v := .agg #[I b.spring, I b.town]) rfl (ldb_ag (ds := [I b.spring, I b.town]) Ag61 Sz61 (H.blk (k := 0) rfl) rfl rfl)) ?_
 refine d_q rfl (fun w' H => x_ld (p := .pointer (some ⟨b_k0, 0, none⟩)) (v := .func (.func 102) #[] #[.pointer (some ⟨b_k020, 0, none⟩), .pointer (some ⟨b_k021, 0, none⟩)]) rfl (ldb_sc Sc146 (h_b_k0.blk H) rfl)) ?_
 refine d_q rfl (fun w' H => x_ld (p := .pointer (some ⟨b_1, 0, none⟩)) (v := .agg #[I a.spring, I a.town]) rfl (ldb_ag (ds := [I a.spring, I a.town]) Ag61 Sz61 (H.blk (k := 1) rfl) rfl rfl)) ?_
 refine d_l rfl ?_
 obtain ⟨r5z, hx4z, hM⟩ := M.e_bind hM
 refine s_callv (f := 102) rfl cf102 [.agg #[I b.spring, I b.town]] rfl (zcB b k020200 k020201 k020202 k020203 k020204 k020205 k020206 k02120 k02121 k02122 k02123 k02124 k02125 k02126 (hC_k020200.app _) hs_k020200 (hC_k020201.app _) hs_k020201 (hC_k020202.app _) hs_k020202 (hC_k020203.app _) hs_k020203 (hC_k020206.app _) hs_k020206 (h_b_k02020.app _) (h_b_k020.app _) (hC_k02120.app _) hs_k02120 (hC_k02121.app _) hs_k02121 (hC_k02122.app _) hs_k02122 (hC_k02123.app _) hs_k02123 (hC_k02126.app _) hs_k02126 (h_b_k0212.app _) (h_b_k021.app _) hx4z _ ((H.pk [2, 0, 1]).gt 2)) ?_
 rintro vq w6z ⟨r2, Bs0_3, hr7z, hvq, H2_⟩
 subst hr7z
 subst vq
 try dsimp only at hM
 replace H := H.pk [2, 0, 1] |>.bk H2_
 clear H2_
 refine s_nil ⟨(H.pk [1, 2]), ?_⟩
 refine d_l rfl ?_
 obtain ⟨r9z, hx8z, hM⟩ := M.e_bind hM
 refine s_callv (f := 102) rfl cf102 [.agg #[I a.spring, I a.town]] rfl (zcB a k020200 k020201 k020202 k020203 k020204 k020205 k020206 k02120 k02121 k02122 k02123 k02124 k02125 k02126 (hC_k020200.app _) hs_k020200 (hC_k020201.app _) hs_k020201 (hC_k020202.app _) hs_k020202 (hC_k020203.app _) hs_k020203 (hC_k020206.app _) hs_k020206 (h_b_k02020.app _) (h_b_k020.app _) (hC_k02120.app _) hs_k02120 (hC_k02121.app _) hs_k02121 (hC_k02122.app _) hs_k02122 (hC_k02123.app _) hs_k02123 (hC_k02126.app _) hs_k02126 (h_b_k0212.app _) (h_b_k021.app _) hx8z _ (H.gt 2)) ?_
 rintro vq w10z ⟨r3, Bs0_4, hr11z, hvq, H2_⟩
 subst hr11z
 subst vq
 try dsimp only at hM
 replace H := H.bk H2_
 clear H2_
 refine s_nil ⟨(H.pk [1, 2]), ?_⟩
 refine d_l rfl ?_
 obtain ⟨r13z, hx12z, hM⟩ := M.e_bind hM
 refine s_call cf105 [I r2, I r3] rfl (cmp_Compare_int_ok r2 r3 hx12z _ (H.gt 3)) ?_
 rintro vq w14z ⟨r4, hr15z, hvq, H2_⟩
 subst hr15z
 subst vq
 try dsimp only at hM
 replace H := H.bk H2_
 clear H2_
 refine s_nil ⟨(H.pk [1, 2]), ?_⟩
 refine d_q rfl (fun w' H => x_as (v := I r4) rfl) ?_
 refine d_nil ?_
 replace H := H.pk [0]
 refine W.ret ?_
 have hr_ := M.e_pure hM
 exact ⟨_, resE_tmp rfl, ⟨r4, Bs0_4, hr_, rfl, H⟩⟩

end Go.Proofs.YtbaehghammbjdaaGreat
end
