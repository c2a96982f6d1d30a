/- Part 5 of the texts on which the proof rests. Conditions: none. -/
import Derived.KernelRfl
import Derived.Test.YtbaehghammbjdaaGreatZA4
set_option linter.unusedVariables false
set_option linter.unusedSimpArgs false
set_option linter.unusedSectionVars false
section
set_option maxRecDepth 100000
set_option maxHeartbeats 16000000
namespace Go.Proofs.YtbaehghammbjdaaGreat
open Go Go.Nm
def zbY (watches : List Int) : ((List Bool) × Nat) -> M (((List Bool) × Nat) ⊕ (List Bool)) := fun (ar, s) =>
  bif decide ((s : Int) < (watches.length : Int)) then (
  M.grd (decide ((s : Int) < (watches.length : Int))) <|
  M.grd (decide ((0 : Int) <= (watches.getD s 0)) && decide ((watches.getD s 0) < (12 : Int))) <|
  M.pure (.inl (ar.set (Int.toNat (watches.getD s 0)) true, s + 1)))
  else (
  M.pure (.inr ar))
def zbI (r__Delay_Lo : Int) (r__Delay_Hi : Int) (watches : List Int) (e : Int) : M (((List Bool) × Int) ⊕ (Int × Int × (List Bool) × Int)) :=
  bif e != 0 then (
  M.pure (.inl ((List.replicate 12 false), e)))
  else (
  M.bind (M.iter (zbY watches) (List.replicate 12 false, 0)) fun ar2 =>
  M.pure (.inl (ar2, 0)))
def zb1 (watches : List Int) : ((List Bool) × Nat) -> M (((List Bool) × Nat) ⊕ (List Bool)) := fun (ar, s) =>
  bif decide ((s : Int) < (watches.length : Int)) then (
  M.grd (decide ((s : Int) < (watches.length : Int))) <|
  M.grd (decide ((0 : Int) <= (watches.getD s 0)) && decide ((watches.getD s 0) < (12 : Int))) <|
  M.pure (.inl (ar.set (Int.toNat (watches.getD s 0)) true, s + 1)))
  else (
  M.pure (.inr ar))
def zbD (r__Down : List Int) (r__Travel : List Span) (r__Springs : List Int) (r__Towns : List Town) (r__Delay_Lo : Int) (r__Delay_Hi : Int) (r__Floods : List Flood) (watches : List Int) (r04 : Int) (r05 : Int) (e2 : Int) : M (((List Bool) × Int) ⊕ (Int × Int × (List Bool) × Int)) :=
  bif e2 != 0 then (
  M.pure (.inl ((List.replicate 12 false), e2)))
  else (
  M.bind (M.iter (zb1 watches) (List.replicate 12 false, 0)) fun ar2 =>
  M.pure (.inr (r04, r05, ar2, 0)))
def zbW (r__Down : List Int) (r__Travel : List Span) (r__Springs : List Int) (r__Towns : List Town) (r__Delay_Lo : Int) (r__Delay_Hi : Int) (r__Floods : List Flood) (watches : List Int) : M (((List Bool) × Int) ⊕ (Int × Int × (List Bool) × Int)) :=
  M.bind (zal r__Down r__Travel r__Springs r__Towns r__Delay_Lo r__Delay_Hi r__Floods) fun x_ => match x_ with
  | (.inl r1) => (
  M.bind (M.opt (r1 == 0) (zau watches (r__Down.length : Int)) false) fun r2 =>
  bif ((r1 == 0) && (!r2)) then (
  zbI r__Delay_Lo r__Delay_Hi watches 2)
  else (
  zbI r__Delay_Lo r__Delay_Hi watches r1))
  | (.inr (r04, r05, r12)) => (
  M.bind (M.opt (r12 == 0) (zau watches (r__Down.length : Int)) false) fun r2 =>
  bif ((r12 == 0) && (!r2)) then (
  zbD r__Down r__Travel r__Springs r__Towns r__Delay_Lo r__Delay_Hi r__Floods watches r04 r05 2)
  else (
  zbD r__Down r__Travel r__Springs r__Towns r__Delay_Lo r__Delay_Hi r__Floods watches r04 r05 r12))
theorem zcA {R : List Chunk} {C_r__Down : Cells} {v_r__Down : Value} {C_r__Travel : Cells} {v_r__Travel : Value} {C_r__Springs : Cells} {v_r__Springs : Value} {C_r__Towns : Cells} {v_r__Towns : Value} {C_r__Floods : Cells} {v_r__Floods : Value} {C_watches : Cells} {v_watches : Value} (r__Down : List Int) (r__Travel : List Span) (r__Springs : List Int) (r__Towns : List Town) (r__Delay_Lo : Int) (r__Delay_Hi : Int) (r__Floods : List Flood) (watches : List Int) (hC_r__Down : Reads R C_r__Down) (hs_r__Down : Sl C_r__Down v_r__Down r__Down) (hC_r__Travel : Reads R C_r__Travel) (hs_r__Travel : Sl C_r__Travel v_r__Travel r__Travel) (hC_r__Springs : Reads R C_r__Springs) (hs_r__Springs : Sl C_r__Springs v_r__Springs r__Springs) (hC_r__Towns : Reads R C_r__Towns) (hs_r__Towns : Sl C_r__Towns v_r__Towns r__Towns) (hC_r__Floods : Reads R C_r__Floods) (hs_r__Floods : Sl C_r__Floods v_r__Floods r__Floods) (hC_watches : Reads R C_watches) (hs_watches : Sl C_watches v_watches watches) {r : (((List Bool) × Int) ⊕ (Int × Int × (List Bool) × Int))} (hM : (zbW r__Down r__Travel r__Springs r__Towns r__Delay_Lo r__Delay_Hi r__Floods watches).Ends r) (w : World) (H : St w w [] R) : Ret Tryz.prog 46 #[.agg #[v_r__Down, v_r__Travel, v_r__Springs, v_r__Towns, I r__Delay_Lo, I r__Delay_Hi, v_r__Floods], v_watches] w fun v w' => (∃ (y0 : List Bool) (y1 : Int), (.inl (y0, y1)) = r /\ v = .tuple #[.pointer none, .agg (encB y0).toArray, I y1] /\ St w w' [] R /\ y0.length = 12) ∨ (∃ (y0 : Int) (y1 : Int) (y2 : List Bool) (y3 : Int) (nb0 : Nat) (nb1 : Nat) (Bs2 : Base), (.inr (y0, y1, y2, y3)) = r /\ v = .tuple #[.pointer (some ⟨nb0, 0, none⟩), .agg (encB y2).toArray, I y3] /\ St w w' [cBlk nb0 [v_r__Down, v_r__Travel, v_r__Springs, v_r__Towns, I y0, I y1, v_r__Floods, .map (some nb1)] 111, cMem encDm nb1 Bs2 (zaa r__Down r__Travel r__Springs r__Towns y0 y1 r__Floods)] R /\ y2.length = 12) := by
 refine ret_of_W Tryz.func46 rfl rfl rfl ?_
 refine W.seq ?_
 refine W.region rfl ?_
 refine t_box (v := .agg #[v_r__Down, v_r__Travel, v_r__Springs, v_r__Towns, I r__Delay_Lo, I r__Delay_Hi, v_r__Floods]) (cs := [v_r__Down, v_r__Travel, v_r__Springs, v_r__Towns, I r__Delay_Lo, I r__Delay_Hi, v_r__Floods]) H rfl rfl ?_
 intro b_1 w1z H
 refine s_val (x_as (v := .pointer none) rfl) ?_
 refine t_alloc (cs := encB (List.replicate 12 false)) H Al96 rfl ?_
 intro b_2 w2z H
 have hl_b_2 : (List.replicate 12 false).length = 12 := by simp
 refine s_val (x_as (v := I 0) rfl) ?_
 refine s_nil ?_
 refine W.seq ?_
 refine W.region rfl ?_
 refine t_alloc (cs := encB (List.replicate 12 false)) H Al96 rfl ?_
 intro b_3 w3z H
 have hl_b_3 : (List.replicate 12 false).length = 12 := by simp
 refine s_nil ?_
 refine W.seq ?_
 refine W.region rfl ?_
 refine s_val (x_ld (p := .pointer (some ⟨b_1, 0, none⟩)) (v := .agg #[v_r__Down, v_r__Travel, v_r__Springs, v_r__Towns, I r__Delay_Lo, I r__Delay_Hi, v_r__Floods]) rfl (ldb_ag (ds := [v_r__Down, v_r__Travel, v_r__Springs, v_r__Towns, I r__Delay_Lo, I r__Delay_Hi, v_r__Floods]) Ag29 Sz29 (H.blk (k := 2) rfl) rfl rfl)) ?_
 obtain ⟨r5z, hx4z, hM⟩ := M.e_bind hM
 refine s_call cf72 [.agg #[v_r__Down, v_r__Travel, v_r__Springs, v_r__Towns, I r__Delay_Lo, I r__Delay_Hi, v_r__Floods]] rfl (zaS r__Down r__Travel r__Springs r__Towns r__Delay_Lo r__Delay_Hi r__Floods (hC_r__Down.app _) hs_r__Down (hC_r__Travel.app _) hs_r__Travel (hC_r__Springs.app _) hs_r__Springs (hC_r__Towns.app _) hs_r__Towns (hC_r__Floods.app _) hs_r__Floods hx4z _ (H.gt 3)) ?_
 rintro vq w6z (⟨r1, hr7z, hvq, H2_⟩ | ⟨r04, r05, r12, nb0_4, nb1_5, Bs2_6, hr8z, hvq, H2_⟩)
 ·subst hr7z
  subst vq
  try dsimp only at hM
  replace H := H.bk H2_
  clear H2_
  refine s_val (x_mv (v := .tuple #[.pointer none, I r1]) rfl) ?_
  refine s_val (x_ext (vs := [.pointer none, I r1]) (v := .pointer none) rfl rfl) ?_
  refine s_val (x_ext (vs := [.pointer none, I r1]) (v := I r1) rfl rfl) ?_
  refine s_val (x_as (v := .pointer none) rfl) ?_
  refine s_val (x_as (v := I r1) rfl) ?_
  refine s_nil ?_
  refine W.seqJ (fun σ W => ∃ (e : Int) (ρ : Env), σ = upds ρ [(1, v_watches), (5, .pointer (some ⟨b_2, 0, none⟩)), (7, .pointer (some ⟨b_3, 0, none⟩)), (8, .pointer none), (9, I e)] /\ (zbI r__Delay_Lo r__Delay_Hi watches e).Ends r /\ St w W [cBlk b_3 (encB (List.replicate 12 false)) 96, cBlk b_2 (encB (List.replicate 12 false)) 96, cBlk b_1 [v_r__Down, v_r__Travel, v_r__Springs, v_r__Towns, I r__Delay_Lo, I r__Delay_Hi, v_r__Floods] 29] R) ?_ ?_
  ·skip
   refine W.seq ?_
   refine W.region rfl ?_
   refine s_val (x_mv (v := I r1) rfl) ?_
   refine s_val (x_cmp (kd := .i64) (a := r1) (b := 0) (r := r1 == 0) rfl rfl rfl) ?_
   refine s_val (x_mv (v := B (r1 == 0)) rfl) ?_
   refine g_val (r1 == 0) (gy_t rfl) (fun hg => x_mv (v := v_watches) rfl) ?_
   refine g_val (r1 == 0) (gy_t rfl) (fun hg => x_fa (a := .pointer (some ⟨b_1, 0, none⟩)) (v := .pointer (some ⟨b_1, 0, none⟩)) rfl (fa_blk (o := 0) Fd29_0 Sz22)) ?_
   refine g_val (r1 == 0) (gy_t rfl) (fun hg => x_ld (p := .pointer (some ⟨b_1, 0, none⟩)) (v := v_r__Down) (gd_of (c := r1 == 0) hg (.pointer (some ⟨b_1, 0, none⟩))) (ldb_sc Sc22 (H.blk (k := 2) rfl) rfl)) ?_
   have hl9z := (hs_r__Down).len_le
   refine g_val (r1 == 0) (gy_t rfl) (fun hg => x_lenS T22.und (gd_of (c := r1 == 0) hg (v_r__Down)) hs_r__Down) ?_
   obtain ⟨r2, hx10z, hM⟩ := M.e_bind hM
   refine t_gcall (r1 == 0) (gy_t rfl) cf62 (B r2) (fun _ => [v_watches, I (r__Down.length : Int)]) (fun hg => lst2 (gd_of (c := r1 == 0) hg (v_watches)) (gd_of (c := r1 == 0) hg (I (r__Down.length : Int)))) H (fun hg => (zb8 watches (r__Down.length : Int) (hC_watches.app _) hs_watches (M.e_opt hx10z hg) _ (H.give (A := []) rfl)).mono fun v_ w_ ⟨y_, hr_, hv_, H_⟩ => by subst hr_; exact ⟨hv_, H.via H_⟩) ?_
   intro w11z H
   refine g_val (r1 == 0) (gy_t rfl) (fun hg => x_not (b := r2) (gd_of (c := r1 == 0) hg (B r2))) ?_
   refine s_val (x_pand (b := r1 == 0) (r := !r2) rfl (fun hb => gd_of (c := r1 == 0) (by first | exact hb | (rw [hb]; rfl) | simp_all) (B (!r2))) rfl) ?_
   refine s_nil ?_
   refine W.cond ((r1 == 0) && (!r2)) rfl (fun c12z => ?_) (fun c12z => ?_)
   ·replace hM := M.e_t hM c12z
    refine W.region rfl ?_
    refine s_val (x_as (v := I 2) rfl) ?_
    refine s_nil ?_
    exact ⟨2, _, upds_of _ _ ⟨rfl, rfl, rfl, rfl, rfl, trivial⟩, hM, H⟩
   replace hM := M.e_f hM c12z
   refine W.skip ?_
   exact ⟨r1, _, upds_of _ _ ⟨rfl, rfl, rfl, rfl, rfl, trivial⟩, hM, H⟩
  rintro _ w13z ⟨e, ρ, rfl, hM, H⟩
  unfold zbI at hM
  refine W.seq ?_
  refine W.seq ?_
  refine W.region rfl ?_
  refine s_val (x_mv (v := I e) rfl) ?_
  refine s_val (x_cmp (kd := .i64) (a := e) (b := 0) (r := e != 0) rfl rfl rfl) ?_
  refine s_nil ?_
  refine W.cond (e != 0) rfl (fun c14z => ?_) (fun c14z => ?_)
  ·replace hM := M.e_t hM c14z
   simp only [decide_eq_true_eq, decide_eq_false_iff_not, beq_iff_eq, bne_iff_ne, beq_eq_false_iff_ne, bne_eq_false_iff_eq, ne_eq, Decidable.not_not] at c14z
   refine W.seq ?_
   refine W.draw (fun W => St w W [cBlk b_3 (encB (List.replicate 12 false)) 96, cBlk b_1 [v_r__Down, v_r__Travel, v_r__Springs, v_r__Towns, I r__Delay_Lo, I r__Delay_Hi, v_r__Floods] 29] R) [(0, true), (1, true), (2, true), (3, false), (4, true)] mixed (by decide +kernel) rfl ?_
   intro w15z hx_
   replace H := H.ext hx_
   clear hx_
   refine ⟨(H.pk [0, 2]), ?_⟩
   refine d_q rfl (fun w' H => x_ld (p := .pointer (some ⟨b_3, 0, none⟩)) (v := .agg (encB (List.replicate 12 false)).toArray) rfl (ldArrA Ag96 Sz96 hl_b_3 (H.blk (k := 0) rfl))) ?_
   refine d_q rfl (fun w' H => x_mv (v := I e) rfl) ?_
   refine d_q rfl (fun w' H => x_as (v := .pointer none) rfl) ?_
   refine d_l rfl ?_
   refine t_stArrA (k := 1) (b := b_2) (l := List.replicate 12 false) (l' := List.replicate 12 false) (L' := [cBlk b_3 (encB (List.replicate 12 false)) 96, cBlk b_2 (encB (List.replicate 12 false)) 96, cBlk b_1 [v_r__Down, v_r__Travel, v_r__Springs, v_r__Towns, I r__Delay_Lo, I r__Delay_Hi, v_r__Floods] 29]) H rfl rfl rfl Sz96 hl_b_2 hl_b_3 rfl ?_
   intro w16z H
   refine s_nil ⟨(H.pk [0, 2]), ?_⟩
   refine d_q rfl (fun w' H => x_as (v := I e) rfl) ?_
   refine d_nil ?_
   replace H := H.pk [1]
   refine W.ret ?_
   have hb17z := (H.blk (k := 0) rfl)
   have hr_ := M.e_pure hM
   exact ⟨_, (resE_ofn (vs := [.pointer none, .agg (encB (List.replicate 12 false)).toArray, I e]) rfl rfl (.tmp (v := .pointer none) rfl <| .cell (v := .agg (encB (List.replicate 12 false)).toArray) rfl (run_loadVar_arr Ag96 Sz96 hl_b_3 hb17z) <| .tmp (v := I e) rfl <| .nil)), .inl (⟨(List.replicate 12 false), e, hr_, rfl, (H.pk []), hl_b_3⟩)⟩
  replace hM := M.e_f hM c14z
  simp only [decide_eq_true_eq, decide_eq_false_iff_not, beq_iff_eq, bne_iff_ne, beq_eq_false_iff_ne, bne_eq_false_iff_eq, ne_eq, Decidable.not_not] at c14z
  refine W.skip ?_
  refine W.seq ?_
  refine W.seq ?_
  refine W.region rfl ?_
  refine s_val (x_mv (v := v_watches) rfl) ?_
  have hl18z := (hs_watches).len_le
  refine s_val (x_lenS T22.und rfl hs_watches) ?_
  refine s_val (x_mv (v := I 0) rfl) ?_
  refine s_nil ?_
  refine W.block ?_
  obtain ⟨ex19z, hi20z, hk21z⟩ := M.e_bind hM
  obtain ⟨m0_, hi20z⟩ := M.e_iter hi20z
  refine W.loop (fun m σ W => ∃ (ar : List Bool) (s : Nat) (ρ : Env), σ = upds ρ [(5, .pointer (some ⟨b_2, 0, none⟩)), (7, .pointer (some ⟨b_3, 0, none⟩)), (8, .pointer none), (31, v_watches), (32, I (watches.length : Int)), (33, I (s : Int))] /\ M.iterN (zbY watches) m (ar, s) = some ex19z /\ St w W [cBlk b_3 (encB ar) 96, cBlk b_2 (encB (List.replicate 12 false)) 96, cBlk b_1 [v_r__Down, v_r__Travel, v_r__Springs, v_r__Towns, I r__Delay_Lo, I r__Delay_Hi, v_r__Floods] 29] R /\ ar.length = 12) ?_ ?_
  ·exact ⟨_, List.replicate 12 false, 0, _, upds_of _ _ ⟨rfl, rfl, rfl, rfl, rfl, rfl, trivial⟩, hi20z, H, hl_b_3⟩
  rintro m24z σ w22z ⟨ar, s, ρ, rfl, hI23z, H, hl_ar⟩
  obtain ⟨m25z, lt26z, x27z, hM, hN28z⟩ := M.e_iterN hI23z
  simp only [zbY] at hM
  clear hI23z
  refine W.seq ?_
  refine W.region rfl ?_
  refine s_val (x_cmp (kd := .i64) (a := (s : Int)) (b := (watches.length : Int)) (r := decide ((s : Int) < (watches.length : Int))) rfl rfl rfl) ?_
  refine s_nil ?_
  refine W.seq ?_
  refine W.cond (decide ((s : Int) < (watches.length : Int))) rfl (fun c29z => ?_) (fun c29z => ?_)
  ·replace hM := M.e_t hM c29z
   simp only [decide_eq_true_eq, decide_eq_false_iff_not, beq_iff_eq, bne_iff_ne, beq_eq_false_iff_ne, bne_eq_false_iff_eq, ne_eq, Decidable.not_not] at c29z
   refine W.skip ?_
   refine W.seq ?_
   refine W.block ?_
   refine W.seq ?_
   refine W.region rfl ?_
   obtain ⟨sd30z, hM⟩ := M.e_grd hM
   simp only [Bool.and_eq_true, decide_eq_true_eq] at sd30z
   refine s_val (x_ix (a := v_watches) (b := I (s : Int)) (v := vat v_watches 1 (Int.toNat (s : Int))) rfl rfl (Sl.ix (α := Int) T22.und T22.size hs_watches (by omega) (by omega))) ?_
   refine s_val (x_ld (p := vat v_watches 1 (Int.toNat (s : Int))) (v := I (watches.getD s 0)) rfl (ld_sc Sc3 (At.mono (Int_at hs_watches (i := (s : Int)) (by omega) (by omega)) (hC_watches.at H)))) ?_
   refine s_val (x_as (v := I (watches.getD s 0)) rfl) ?_
   refine s_nil ?_
   refine W.region rfl ?_
   refine s_val (x_mv (v := I (watches.getD s 0)) rfl) ?_
   obtain ⟨sd31z, hM⟩ := M.e_grd hM
   simp only [Bool.and_eq_true, decide_eq_true_eq] at sd31z
   refine s_val (x_ix (a := .pointer (some ⟨b_3, 0, none⟩)) (b := I (watches.getD s 0)) (v := .pointer (some ⟨b_3, 0 + Int.toNat (watches.getD s 0), none⟩)) rfl rfl (run_indexArr Tryz.underlying96 Sz4 (by omega) (by omega))) ?_
   refine t_stArr (k := 0) (b := b_3) (l := ar) (l' := ar.set (Int.toNat (watches.getD s 0)) true) (i := watches.getD s 0) (v := true) (L' := [cBlk b_3 (encB (ar.set (Int.toNat (watches.getD s 0)) true)) 96, cBlk b_2 (encB (List.replicate 12 false)) 96, cBlk b_1 [v_r__Down, v_r__Travel, v_r__Springs, v_r__Towns, I r__Delay_Lo, I r__Delay_Hi, v_r__Floods] 29]) H rfl rfl rfl Sz4 (by omega) (by have hl_ := hl_ar; omega) rfl rfl ?_
   intro w32z H
   have hl33z : (ar.set (Int.toNat (watches.getD s 0)) true).length = 12 := List.length_set.trans hl_ar
   refine s_nil ?_
   refine W.region rfl ?_
   refine s_val (x_ari (a := (s : Int)) (b := 1) (r := (s : Int) + 1) rfl rfl rfl (by omega)) ?_
   refine s_val (x_mv (v := I ((s : Int) + 1)) rfl) ?_
   refine s_nil ?_
   exact ⟨m25z, lt26z, ar.set (Int.toNat (watches.getD s 0)) true, s + 1, _, upds_of _ _ ⟨rfl, rfl, rfl, rfl, rfl, rfl, trivial⟩, M.e_inl hM hN28z, H, hl33z⟩
  replace hM := M.e_f hM c29z
  simp only [decide_eq_true_eq, decide_eq_false_iff_not, beq_iff_eq, bne_iff_ne, beq_eq_false_iff_ne, bne_eq_false_iff_eq, ne_eq, Decidable.not_not] at c29z
  refine W.exit ?_
  have hX34z := M.e_inr hM hN28z
  subst hX34z
  replace hM := hk21z
  try dsimp only at hM
  refine W.seq ?_
  refine W.draw (fun W => St w W [cBlk b_3 (encB ar) 96, cBlk b_1 [v_r__Down, v_r__Travel, v_r__Springs, v_r__Towns, I r__Delay_Lo, I r__Delay_Hi, v_r__Floods] 29] R) [(0, true), (1, true), (2, true), (3, false), (4, true)] mixed (by decide +kernel) rfl ?_
  intro w35z hx_
  replace H := H.ext hx_
  clear hx_
  refine ⟨(H.pk [0, 2]), ?_⟩
  refine d_q rfl (fun w' H => x_mv (v := .pointer none) rfl) ?_
  refine d_q rfl (fun w' H => x_ld (p := .pointer (some ⟨b_3, 0, none⟩)) (v := .agg (encB ar).toArray) rfl (ldArrA Ag96 Sz96 hl_ar (H.blk (k := 0) rfl))) ?_
  refine d_q rfl (fun w' H => x_as (v := .pointer none) rfl) ?_
  refine d_l rfl ?_
  refine t_stArrA (k := 1) (b := b_2) (l := List.replicate 12 false) (l' := ar) (L' := [cBlk b_3 (encB ar) 96, cBlk b_2 (encB ar) 96, cBlk b_1 [v_r__Down, v_r__Travel, v_r__Springs, v_r__Towns, I r__Delay_Lo, I r__Delay_Hi, v_r__Floods] 29]) H rfl rfl rfl Sz96 hl_b_2 hl_ar rfl ?_
  intro w36z H
  refine s_nil ⟨(H.pk [0, 2]), ?_⟩
  refine d_q rfl (fun w' H => x_as (v := I 0) rfl) ?_
  refine d_nil ?_
  replace H := H.pk [1]
  refine W.ret ?_
  have hb37z := (H.blk (k := 0) rfl)
  have hr_ := M.e_pure hM
  exact ⟨_, (resE_ofn (vs := [.pointer none, .agg (encB ar).toArray, I 0]) rfl rfl (.tmp (v := .pointer none) rfl <| .cell (v := .agg (encB ar).toArray) rfl (run_loadVar_arr Ag96 Sz96 hl_ar hb37z) <| .tmp (v := I 0) rfl <| .nil)), .inl (⟨ar, 0, hr_, rfl, (H.pk []), hl_ar⟩)⟩
 subst hr8z
 subst vq
 try dsimp only at hM
 replace H := H.bk H2_
 clear H2_
 refine s_val (x_mv (v := .tuple #[.pointer (some ⟨nb0_4, 0, none⟩), I r12]) rfl) ?_
 refine s_val (x_ext (vs := [.pointer (some ⟨nb0_4, 0, none⟩), I r12]) (v := .pointer (some ⟨nb0_4, 0, none⟩)) rfl rfl) ?_
 refine s_val (x_ext (vs := [.pointer (some ⟨nb0_4, 0, none⟩), I r12]) (v := I r12) rfl rfl) ?_
 refine s_val (x_as (v := .pointer (some ⟨nb0_4, 0, none⟩)) rfl) ?_
 refine s_val (x_as (v := I r12) rfl) ?_
 refine s_nil ?_
 refine W.seqJ (fun σ W => ∃ (e2 : Int) (ρ : Env), σ = upds ρ [(1, v_watches), (5, .pointer (some ⟨b_2, 0, none⟩)), (7, .pointer (some ⟨b_3, 0, none⟩)), (8, .pointer (some ⟨nb0_4, 0, none⟩)), (9, I e2)] /\ (zbD r__Down r__Travel r__Springs r__Towns r__Delay_Lo r__Delay_Hi r__Floods watches r04 r05 e2).Ends r /\ St w W [cBlk nb0_4 [v_r__Down, v_r__Travel, v_r__Springs, v_r__Towns, I r04, I r05, v_r__Floods, .map (some nb1_5)] 111, cMem encDm nb1_5 Bs2_6 (zaa r__Down r__Travel r__Springs r__Towns r04 r05 r__Floods), cBlk b_3 (encB (List.replicate 12 false)) 96, cBlk b_2 (encB (List.replicate 12 false)) 96, cBlk b_1 [v_r__Down, v_r__Travel, v_r__Springs, v_r__Towns, I r__Delay_Lo, I r__Delay_Hi, v_r__Floods] 29] R) ?_ ?_
 ·skip
  refine W.seq ?_
  refine W.region rfl ?_
  refine s_val (x_mv (v := I r12) rfl) ?_
  refine s_val (x_cmp (kd := .i64) (a := r12) (b := 0) (r := r12 == 0) rfl rfl rfl) ?_
  refine s_val (x_mv (v := B (r12 == 0)) rfl) ?_
  refine g_val (r12 == 0) (gy_t rfl) (fun hg => x_mv (v := v_watches) rfl) ?_
  refine g_val (r12 == 0) (gy_t rfl) (fun hg => x_fa (a := .pointer (some ⟨b_1, 0, none⟩)) (v := .pointer (some ⟨b_1, 0, none⟩)) rfl (fa_blk (o := 0) Fd29_0 Sz22)) ?_
  refine g_val (r12 == 0) (gy_t rfl) (fun hg => x_ld (p := .pointer (some ⟨b_1, 0, none⟩)) (v := v_r__Down) (gd_of (c := r12 == 0) hg (.pointer (some ⟨b_1, 0, none⟩))) (ldb_sc Sc22 (H.blk (k := 4) rfl) rfl)) ?_
  have hl38z := (hs_r__Down).len_le
  refine g_val (r12 == 0) (gy_t rfl) (fun hg => x_lenS T22.und (gd_of (c := r12 == 0) hg (v_r__Down)) hs_r__Down) ?_
  obtain ⟨r2, hx39z, hM⟩ := M.e_bind hM
  refine t_gcall (r12 == 0) (gy_t rfl) cf62 (B r2) (fun _ => [v_watches, I (r__Down.length : Int)]) (fun hg => lst2 (gd_of (c := r12 == 0) hg (v_watches)) (gd_of (c := r12 == 0) hg (I (r__Down.length : Int)))) H (fun hg => (zb8 watches (r__Down.length : Int) (hC_watches.app _) hs_watches (M.e_opt hx39z hg) _ (H.give (A := []) rfl)).mono fun v_ w_ ⟨y_, hr_, hv_, H_⟩ => by subst hr_; exact ⟨hv_, H.via H_⟩) ?_
  intro w40z H
  refine g_val (r12 == 0) (gy_t rfl) (fun hg => x_not (b := r2) (gd_of (c := r12 == 0) hg (B r2))) ?_
  refine s_val (x_pand (b := r12 == 0) (r := !r2) rfl (fun hb => gd_of (c := r12 == 0) (by first | exact hb | (rw [hb]; rfl) | simp_all) (B (!r2))) rfl) ?_
  refine s_nil ?_
  refine W.cond ((r12 == 0) && (!r2)) rfl (fun c41z => ?_) (fun c41z => ?_)
  ·replace hM := M.e_t hM c41z
   refine W.region rfl ?_
   refine s_val (x_as (v := I 2) rfl) ?_
   refine s_nil ?_
   exact ⟨2, _, upds_of _ _ ⟨rfl, rfl, rfl, rfl, rfl, trivial⟩, hM, H⟩
  replace hM := M.e_f hM c41z
  refine W.skip ?_
  exact ⟨r12, _, upds_of _ _ ⟨rfl, rfl, rfl, rfl, rfl, trivial⟩, hM, H⟩
 rintro _ w42z ⟨e2, ρ, rfl, hM, H⟩
 unfold zbD at hM
 refine W.seq ?_
 refine W.seq ?_
 refine W.region rfl ?_
 refine s_val (x_mv (v := I e2) rfl) ?_
 refine s_val (x_cmp (kd := .i64) (a := e2) (b := 0) (r := e2 != 0) rfl rfl rfl) ?_
 refine s_nil ?_
 refine W.cond (e2 != 0) rfl (fun c43z => ?_) (fun c43z => ?_)
 ·replace hM := M.e_t hM c43z
  simp only [decide_eq_true_eq, decide_eq_false_iff_not, beq_iff_eq, bne_iff_ne, beq_eq_false_iff_ne, bne_eq_false_iff_eq, ne_eq, Decidable.not_not] at c43z
  refine W.seq ?_
  refine W.draw (fun W => St w W [cBlk nb0_4 [v_r__Down, v_r__Travel, v_r__Springs, v_r__Towns, I r04, I r05, v_r__Floods, .map (some nb1_5)] 111, cMem encDm nb1_5 Bs2_6 (zaa r__Down r__Travel r__Springs r__Towns r04 r05 r__Floods), cBlk b_3 (encB (List.replicate 12 false)) 96, cBlk b_1 [v_r__Down, v_r__Travel, v_r__Springs, v_r__Towns, I r__Delay_Lo, I r__Delay_Hi, v_r__Floods] 29] R) [(0, true), (1, true), (2, true), (3, false), (4, true)] mixed (by decide +kernel) rfl ?_
  intro w44z hx_
  replace H := H.ext hx_
  clear hx_
  refine ⟨(H.pk [0, 1, 2, 4]), ?_⟩
  refine d_q rfl (fun w' H => x_ld (p := .pointer (some ⟨b_3, 0, none⟩)) (v := .agg (encB (List.replicate 12 false)).toArray) rfl (ldArrA Ag96 Sz96 hl_b_3 (H.blk (k := 2) rfl))) ?_
  refine d_q rfl (fun w' H => x_mv (v := I e2) rfl) ?_
  refine d_q rfl (fun w' H => x_as (v := .pointer none) rfl) ?_
  refine d_l rfl ?_
  refine t_stArrA (k := 3) (b := b_2) (l := List.replicate 12 false) (l' := List.replicate 12 false) (L' := [cBlk nb0_4 [v_r__Down, v_r__Travel, v_r__Springs, v_r__Towns, I r04, I r05, v_r__Floods, .map (some nb1_5)] 111, cMem encDm nb1_5 Bs2_6 (zaa r__Down r__Travel r__Springs r__Towns r04 r05 r__Floods), cBlk b_3 (encB (List.replicate 12 false)) 96, cBlk b_2 (encB (List.replicate 12 false)) 96, cBlk b_1 [v_r__Down, v_r__Travel, v_r__Springs, v_r__Towns, I r__Delay_Lo, I r__Delay_Hi, v_r__Floods] 29]) H rfl rfl rfl Sz96 hl_b_2 hl_b_3 rfl ?_
  intro w45z H
  refine s_nil ⟨(H.pk [0, 1, 2, 4]), ?_⟩
  refine d_q rfl (fun w' H => x_as (v := I e2) rfl) ?_
  refine d_nil ?_
  replace H := H.pk [3]
  refine W.ret ?_
  have hb46z := (H.blk (k := 0) rfl)
  have hr_ := M.e_pure hM
  exact ⟨_, (resE_ofn (vs := [.pointer none, .agg (encB (List.replicate 12 false)).toArray, I e2]) rfl rfl (.tmp (v := .pointer none) rfl <| .cell (v := .agg (encB (List.replicate 12 false)).toArray) rfl (run_loadVar_arr Ag96 Sz96 hl_b_3 hb46z) <| .tmp (v := I e2) rfl <| .nil)), .inl (⟨(List.replicate 12 false), e2, hr_, rfl, (H.pk []), hl_b_3⟩)⟩
 replace hM := M.e_f hM c43z
 simp only [decide_eq_true_eq, decide_eq_false_iff_not, beq_iff_eq, bne_iff_ne, beq_eq_false_iff_ne, bne_eq_false_iff_eq, ne_eq, Decidable.not_not] at c43z
 refine W.skip ?_
 refine W.seq ?_
 refine W.seq ?_
 refine W.region rfl ?_
 refine s_val (x_mv (v := v_watches) rfl) ?_
 have hl47z := (hs_watches).len_le
 refine s_val (x_lenS T22.und rfl hs_watches) ?_
 refine s_val (x_mv (v := I 0) rfl) ?_
 refine s_nil ?_
 refine W.block ?_
 obtain ⟨ex48z, hi49z, hk50z⟩ := M.e_bind hM
 obtain ⟨m0_, hi49z⟩ := M.e_iter hi49z
 refine W.loop (fun m σ W => ∃ (ar : List Bool) (s : Nat) (ρ : Env), σ = upds ρ [(5, .pointer (some ⟨b_2, 0, none⟩)), (7, .pointer (some ⟨b_3, 0, none⟩)), (8, .pointer (some ⟨nb0_4, 0, none⟩)), (31, v_watches), (32, I (watches.length : Int)), (33, I (s : Int))] /\ M.iterN (zb1 watches) m (ar, s) = some ex48z /\ St w W [cBlk nb0_4 [v_r__Down, v_r__Travel, v_r__Springs, v_r__Towns, I r04, I r05, v_r__Floods, .map (some nb1_5)] 111, cMem encDm nb1_5 Bs2_6 (zaa r__Down r__Travel r__Springs r__Towns r04 r05 r__Floods), cBlk b_3 (encB ar) 96, cBlk b_2 (encB (List.replicate 12 false)) 96, cBlk b_1 [v_r__Down, v_r__Travel, v_r__Springs, v_r__Towns, I r__Delay_Lo, I r__Delay_Hi, v_r__Floods] 29] R /\ ar.length = 12) ?_ ?_
 ·exact ⟨_, List.replicate 12 false, 0, _, upds_of _ _ ⟨rfl, rfl, rfl, rfl, rfl, rfl, trivial⟩, hi49z, H, hl_b_3⟩
 rintro m53z σ w51z ⟨ar, s, ρ, rfl, hI52z, H, hl_ar⟩
 obtain ⟨m54z, lt55z, x56z, hM, hN57z⟩ := M.e_iterN hI52z
 simp only [zb1] at hM
 clear hI52z
 refine W.seq ?_
 refine W.region rfl ?_
 refine s_val (x_cmp (kd := .i64) (a := (s : Int)) (b := (watches.length : Int)) (r := decide ((s : Int) < (watches.length : Int))) rfl rfl rfl) ?_
 refine s_nil ?_
 refine W.seq ?_
 refine W.cond (decide ((s : Int) < (watches.length : Int))) rfl (fun c58z => ?_) (fun c58z => ?_)
 ·replace hM := M.e_t hM c58z
  simp only [decide_eq_true_eq, decide_eq_false_iff_not, beq_iff_eq, bne_iff_ne, beq_eq_false_iff_ne, bne_eq_false_iff_eq, ne_eq, Decidable.not_not] at c58z
  refine W.skip ?_
  refine W.seq ?_
  refine W.block ?_
  refine W.seq ?_
  refine W.region rfl ?_
  obtain ⟨sd59z, hM⟩ := M.e_grd hM
  simp only [Bool.and_eq_true, decide_eq_true_eq] at sd59z
  refine s_val (x_ix (a := v_watches) (b := I (s : Int)) (v := vat v_watches 1 (Int.toNat (s : Int))) rfl rfl (Sl.ix (α := Int) T22.und T22.size hs_watches (by omega) (by omega))) ?_
  refine s_val (x_ld (p := vat v_watches 1 (Int.toNat (s : Int))) (v := I (watches.getD s 0)) rfl (ld_sc Sc3 (At.mono (Int_at hs_watches (i := (s : Int)) (by omega) (by omega)) (hC_watches.at H)))) ?_
  refine s_val (x_as (v := I (watches.getD s 0)) rfl) ?_
  refine s_nil ?_
  refine W.region rfl ?_
  refine s_val (x_mv (v := I (watches.getD s 0)) rfl) ?_
  obtain ⟨sd60z, hM⟩ := M.e_grd hM
  simp only [Bool.and_eq_true, decide_eq_true_eq] at sd60z
  refine s_val (x_ix (a := .pointer (some ⟨b_3, 0, none⟩)) (b := I (watches.getD s 0)) (v := .pointer (some ⟨b_3, 0 + Int.toNat (watches.getD s 0), none⟩)) rfl rfl (run_indexArr Tryz.underlying96 Sz4 (by omega) (by omega))) ?_
  refine t_stArr (k := 2) (b := b_3) (l := ar) (l' := ar.set (Int.toNat (watches.getD s 0)) true) (i := watches.getD s 0) (v := true) (L' := [cBlk nb0_4 [v_r__Down, v_r__Travel, v_r__Springs, v_r__Towns, I r04, I r05, v_r__Floods, .map (some nb1_5)] 111, cMem encDm nb1_5 Bs2_6 (zaa r__Down r__Travel r__Springs r__Towns r04 r05 r__Floods), cBlk b_3 (encB (ar.set (Int.toNat (watches.getD s 0)) true)) 96, cBlk b_2 (encB (List.replicate 12 false)) 96, cBlk b_1 [v_r__Down, v_r__Travel, v_r__Springs, v_r__Towns, I r__Delay_Lo, I r__Delay_Hi, v_r__Floods] 29]) H rfl rfl rfl Sz4 (by omega) (by have hl_ := hl_ar; omega) rfl rfl ?_
  intro w61z H
  have hl62z : (ar.set (Int.toNat (watches.getD s 0)) true).length = 12 := List.length_set.trans hl_ar
  refine s_nil ?_
  refine W.region rfl ?_
  refine s_val (x_ari (a := (s : Int)) (b := 1) (r := (s : Int) + 1) rfl rfl rfl (by omega)) ?_
  refine s_val (x_mv (v := I ((s : Int) + 1)) rfl) ?_
  refine s_nil ?_
  exact ⟨m54z, lt55z, ar.set (Int.toNat (watches.getD s 0)) true, s + 1, _, upds_of _ _ ⟨rfl, rfl, rfl, rfl, rfl, rfl, trivial⟩, M.e_inl hM hN57z, H, hl62z⟩
 replace hM := M.e_f hM c58z
 simp only [decide_eq_true_eq, decide_eq_false_iff_not, beq_iff_eq, bne_iff_ne, beq_eq_false_iff_ne, bne_eq_false_iff_eq, ne_eq, Decidable.not_not] at c58z
 refine W.exit ?_
 have hX63z := M.e_inr hM hN57z
 subst hX63z
 replace hM := hk50z
 try dsimp only at hM
 refine W.seq ?_
 refine W.draw (fun W => St w W [cBlk nb0_4 [v_r__Down, v_r__Travel, v_r__Springs, v_r__Towns, I r04, I r05, v_r__Floods, .map (some nb1_5)] 111, cMem encDm nb1_5 Bs2_6 (zaa r__Down r__Travel r__Springs r__Towns r04 r05 r__Floods), cBlk b_3 (encB ar) 96, cBlk b_1 [v_r__Down, v_r__Travel, v_r__Springs, v_r__Towns, I r__Delay_Lo, I r__Delay_Hi, v_r__Floods] 29] R) [(0, true), (1, true), (2, true), (3, false), (4, true)] mixed (by decide +kernel) rfl ?_
 intro w64z hx_
 replace H := H.ext hx_
 clear hx_
 refine ⟨(H.pk [0, 1, 2, 4]), ?_⟩
 refine d_q rfl (fun w' H => x_mv (v := .pointer (some ⟨nb0_4, 0, none⟩)) rfl) ?_
 refine d_q rfl (fun w' H => x_ld (p := .pointer (some ⟨b_3, 0, none⟩)) (v := .agg (encB ar).toArray) rfl (ldArrA Ag96 Sz96 hl_ar (H.blk (k := 2) rfl))) ?_
 refine d_q rfl (fun w' H => x_as (v := .pointer (some ⟨nb0_4, 0, none⟩)) rfl) ?_
 refine d_l rfl ?_
 refine t_stArrA (k := 3) (b := b_2) (l := List.replicate 12 false) (l' := ar) (L' := [cBlk nb0_4 [v_r__Down, v_r__Travel, v_r__Springs, v_r__Towns, I r04, I r05, v_r__Floods, .map (some nb1_5)] 111, cMem encDm nb1_5 Bs2_6 (zaa r__Down r__Travel r__Springs r__Towns r04 r05 r__Floods), cBlk b_3 (encB ar) 96, cBlk b_2 (encB ar) 96, cBlk b_1 [v_r__Down, v_r__Travel, v_r__Springs, v_r__Towns, I r__Delay_Lo, I r__Delay_Hi, v_r__Floods] 29]) H rfl rfl rfl Sz96 hl_b_2 hl_ar rfl ?_
 intro w65z H
 refine s_nil ⟨(H.pk [0, 1, 2, 4]), ?_⟩
 refine d_q rfl (fun w' H => x_as (v := I 0) rfl) ?_
 refine d_nil ?_
 replace H := H.pk [0, 1, 3]
 refine W.ret ?_
 have hb66z := (H.blk (k := 2) rfl)
 have hr_ := M.e_pure hM
 exact ⟨_, (resE_ofn (vs := [.pointer (some ⟨nb0_4, 0, none⟩), .agg (encB ar).toArray, I 0]) rfl rfl (.tmp (v := .pointer (some ⟨nb0_4, 0, none⟩)) rfl <| .cell (v := .agg (encB ar).toArray) rfl (run_loadVar_arr Ag96 Sz96 hl_ar hb66z) <| .tmp (v := I 0) rfl <| .nil)), .inr (⟨r04, r05, ar, 0, nb0_4, nb1_5, Bs2_6, hr_, rfl, (H.pk [0, 1]), hl_ar⟩)⟩

def zbh (t : Town) (k02 : Int) (k10 : Int) (k11 : List Int) (k22 : Int) : M Bool :=
  M.grd ((!(t.station == k02) || (decide ((0 : Int) <= k22) && decide (k22 < (k11.length : Int))))) <|
  M.pure ((t.station == k02) && (decide (t.alarm <= (k11.getD (Int.toNat k22) 0))))
theorem zcO {R : List Chunk} {b_k0 : Nat} {b_k1 : Nat} {C_k11 : Cells} {v_k11 : Value} {b_k2 : Nat} (t : Town) (k02 : Int) (k10 : Int) (k11 : List Int) (k22 : Int) (h_b_k0 : Has R (cBlk b_k0 [I k02] 3)) (hC_k11 : Reads R C_k11) (hs_k11 : Sl C_k11 v_k11 k11) (h_b_k1 : Has R (cBlk b_k1 [I k10, v_k11] 85)) (h_b_k2 : Has R (cBlk b_k2 [I k22] 3)) {r : Bool} (hM : (zbh t k02 k10 k11 k22).Ends r) (w : World) (H : St w w [] R) : Ret Tryz.prog 93 #[.agg #[I t.station, I t.lead, I t.alarm], .pointer (some ⟨b_k0, 0, none⟩), .pointer (some ⟨b_k1, 0, none⟩), .pointer (some ⟨b_k2, 0, none⟩)] w fun v w' => ∃ (y0 : Bool), y0 = r /\ v = B y0 /\ St w w' [] R := by
 refine ret_of_W Tryz.func93 rfl rfl rfl ?_
 refine W.seq ?_
 refine W.region rfl ?_
 refine t_box (v := .agg #[I t.station, I t.lead, I t.alarm]) (cs := [I t.station, I t.lead, I t.alarm]) H rfl rfl ?_
 intro b_1 w1z H
 refine s_val (x_as (v := B false) rfl) ?_
 refine s_nil ?_
 refine W.seq ?_
 refine W.draw (fun W => St w W [cBlk b_1 [I t.station, I t.lead, I t.alarm] 91] R) [(0, true), (1, true), (2, true), (3, true), (4, true), (5, true), (6, true), (7, true), (8, true), (9, true), (10, true), (11, true), (12, true), (13, true), (14, true)] mixed (by decide +kernel) rfl ?_
 intro w2z hx_
 replace H := H.ext hx_
 clear hx_
 refine ⟨(H.pk [0]), ?_⟩
 refine d_q rfl (fun w' H => x_fa (a := .pointer (some ⟨b_1, 0, none⟩)) (v := .pointer (some ⟨b_1, 0, none⟩)) rfl (fa_blk (o := 0) Fd91_0 Sz3)) ?_
 refine d_q rfl (fun w' H => x_ld (p := .pointer (some ⟨b_1, 0, none⟩)) (v := I t.station) rfl (ldb_sc Sc3 (H.blk (k := 0) rfl) rfl)) ?_
 refine d_q rfl (fun w' H => x_ld (p := .pointer (some ⟨b_k0, 0, none⟩)) (v := I k02) rfl (ldb_sc Sc3 (h_b_k0.blk H) rfl)) ?_
 refine d_q rfl (fun w' H => x_cmp (kd := .i64) (a := t.station) (b := k02) (r := t.station == k02) rfl rfl rfl) ?_
 refine d_q rfl (fun w' H => x_mv (v := B (t.station == k02)) rfl) ?_
 refine d_qg (t.station == k02) rfl (gy_t rfl) (fun hg => (fun w' H => x_fa (a := .pointer (some ⟨b_k1, 0, none⟩)) (v := .pointer (some ⟨b_k1, 1, none⟩)) rfl (fa_blk (o := 0) Fd85_1 Sz22))) ?_
 refine d_qg (t.station == k02) rfl (gy_t rfl) (fun hg => (fun w' H => x_ld (p := .pointer (some ⟨b_k1, 1, none⟩)) (v := v_k11) (gd_of (c := t.station == k02) hg (.pointer (some ⟨b_k1, 1, none⟩))) (ldb_sc Sc22 (h_b_k1.blk H) rfl))) ?_
 refine d_qg (t.station == k02) rfl (gy_t rfl) (fun hg => (fun w' H => x_ld (p := .pointer (some ⟨b_k2, 0, none⟩)) (v := I k22) rfl (ldb_sc Sc3 (h_b_k2.blk H) rfl))) ?_
 obtain ⟨sd3z, hM⟩ := M.e_grd hM
 replace sd3z := M.imp_of sd3z
 simp only [Bool.and_eq_true, decide_eq_true_eq] at sd3z
 refine d_qg (t.station == k02) rfl (gy_t rfl) (fun hg => (fun w' H => x_ix (a := v_k11) (b := I k22) (v := vat v_k11 1 (Int.toNat k22)) (gd_of (c := t.station == k02) hg (v_k11)) (gd_of (c := t.station == k02) hg (I k22)) (Sl.ix (α := Int) T22.und T22.size hs_k11 (by have h1_ := sd3z.resolve_left (by rw [hg]; decide); first | exact h1_ | exact h1_.1 | exact h1_.2 | omega | (have hx_ := hg; simp at hx_; omega)) (by have h1_ := sd3z.resolve_left (by rw [hg]; decide); first | exact h1_ | exact h1_.1 | exact h1_.2 | omega | (have hx_ := hg; simp at hx_; omega))))) ?_
 refine d_qg (t.station == k02) rfl (gy_t rfl) (fun hg => (fun w' H => x_ld (p := vat v_k11 1 (Int.toNat k22)) (v := I (k11.getD (Int.toNat k22) 0)) (gd_of (c := t.station == k02) hg (vat v_k11 1 (Int.toNat k22))) (ld_sc Sc3 (At.mono (Int_at hs_k11 (i := k22) (by have h1_ := sd3z.resolve_left (by rw [hg]; decide); first | exact h1_ | exact h1_.1 | exact h1_.2 | omega | (have hx_ := hg; simp at hx_; omega)) (by have h1_ := sd3z.resolve_left (by rw [hg]; decide); first | exact h1_ | exact h1_.1 | exact h1_.2 | omega | (have hx_ := hg; simp at hx_; omega))) (hC_k11.at H))))) ?_
 refine d_qg (t.station == k02) rfl (gy_t rfl) (fun hg => (fun w' H => x_fa (a := .pointer (some ⟨b_1, 0, none⟩)) (v := .pointer (some ⟨b_1, 2, none⟩)) rfl (fa_blk (o := 0) Fd91_2 Sz3))) ?_
 refine d_qg (t.station == k02) rfl (gy_t rfl) (fun hg => (fun w' H => x_ld (p := .pointer (some ⟨b_1, 2, none⟩)) (v := I t.alarm) (gd_of (c := t.station == k02) hg (.pointer (some ⟨b_1, 2, none⟩))) (ldb_sc Sc3 (H.blk (k := 0) rfl) rfl))) ?_
 refine d_qg (t.station == k02) rfl (gy_t rfl) (fun hg => (fun w' H => x_cmp (kd := .i64) (a := k11.getD (Int.toNat k22) 0) (b := t.alarm) (r := decide (t.alarm <= (k11.getD (Int.toNat k22) 0))) (gd_of (c := t.station == k02) hg (I (k11.getD (Int.toNat k22) 0))) (gd_of (c := t.station == k02) hg (I t.alarm)) rfl)) ?_
 refine d_q rfl (fun w' H => x_pand (b := t.station == k02) (r := decide (t.alarm <= (k11.getD (Int.toNat k22) 0))) rfl (fun hb => gd_of (c := t.station == k02) (by first | exact hb | (rw [hb]; rfl) | simp_all) (B (decide (t.alarm <= (k11.getD (Int.toNat k22) 0))))) rfl) ?_
 refine d_q rfl (fun w' H => x_as (v := B ((t.station == k02) && (decide (t.alarm <= (k11.getD (Int.toNat k22) 0))))) rfl) ?_
 refine d_nil ?_
 refine W.ret ?_
 have hr_ := M.e_pure hM
 exact ⟨_, resE_tmp rfl, ⟨((t.station == k02) && (decide (t.alarm <= (k11.getD (Int.toNat k22) 0)))), hr_, rfl, (H.pk [])⟩⟩

def zaO (w__River_Towns : List Town) (f : Flood) (p : List Bool) : (Int × Int × Bool) -> (Int × Int) -> M ((Int × Int × Bool) ⊕ Unit) := fun (s3, s4, s5) (x, x2) =>
  M.grd (decide ((0 : Int) <= x2) && decide (x2 < (12 : Int))) <|
  bif ((p.getD (Int.toNat x2) false) && (s3 == (-1))) then (
  M.grd (decide ((0 : Int) <= x) && decide (x < (f.stages.length : Int))) <|
  M.bind (zaP w__River_Towns (fun xqz => zbh xqz x2 f.spring f.stages x)) fun r2 =>
  bif r2 then (
  M.pure (.inl (x2, f.stages.getD (Int.toNat x) 0, true)))
  else (
  M.pure (.inl (x2, f.stages.getD (Int.toNat x) 0, s5))))
  else (
  M.bind (zaP w__River_Towns (fun xqz => zbh xqz x2 f.spring f.stages x)) fun r2 =>
  bif r2 then (
  M.pure (.inl (s3, s4, true)))
  else (
  M.pure (.inl (s3, s4, s5))))
def zaW (w__River_Down : List Int) (w__River_Travel : List Span) (w__River_Springs : List Int) (w__River_Towns : List Town) (w__River_Delay_Lo : Int) (w__River_Delay_Hi : Int) (w__River_Floods : List Flood) (f : Flood) (p : List Bool) : M (Int × Int × Bool) :=
  M.bind (zak w__River_Down w__River_Travel w__River_Springs w__River_Towns w__River_Delay_Lo w__River_Delay_Hi w__River_Floods f.spring) fun (r00, r14, r15) =>
  M.bind (zan (M.yl (zaO w__River_Towns f p)) (.inl (-1, 0, false)) r00 w__River_Down w__River_Travel w__River_Springs w__River_Towns r14 r15 w__River_Floods) fun x_ => match x_ with
  | (.inl (s3, s4, s5), q0) => (
  M.pure (s3, s4, s5))
  | (.inr _, _) => M.fail
theorem zbl {R : List Chunk} {b_w_ : Nat} {C_w__River_Down : Cells} {v_w__River_Down : Value} {C_w__River_Travel : Cells} {v_w__River_Travel : Value} {C_w__River_Springs : Cells} {v_w__River_Springs : Value} {C_w__River_Towns : Cells} {v_w__River_Towns : Value} {C_w__River_Floods : Cells} {v_w__River_Floods : Value} {b_w__found : Nat} {C_f_stages : Cells} {v_f_stages : Value} (w__River_Down : List Int) (w__River_Travel : List Span) (w__River_Springs : List Int) (w__River_Towns : List Town) (w__River_Delay_Lo : Int) (w__River_Delay_Hi : Int) (w__River_Floods : List Flood) (f : Flood) (p : List Bool) (hC_w__River_Down : Reads R C_w__River_Down) (hs_w__River_Down : Sl C_w__River_Down v_w__River_Down w__River_Down) (hC_w__River_Travel : Reads R C_w__River_Travel) (hs_w__River_Travel : Sl C_w__River_Travel v_w__River_Travel w__River_Travel) (hC_w__River_Springs : Reads R C_w__River_Springs) (hs_w__River_Springs : Sl C_w__River_Springs v_w__River_Springs w__River_Springs) (hC_w__River_Towns : Reads R C_w__River_Towns) (hs_w__River_Towns : Sl C_w__River_Towns v_w__River_Towns w__River_Towns) (hC_w__River_Floods : Reads R C_w__River_Floods) (hs_w__River_Floods : Sl C_w__River_Floods v_w__River_Floods w__River_Floods) (h_b_w_ : Has R (cBlk b_w_ [v_w__River_Down, v_w__River_Travel, v_w__River_Springs, v_w__River_Towns, I w__River_Delay_Lo, I w__River_Delay_Hi, v_w__River_Floods, .map (some b_w__found)] 111)) (hC_f_stages : Reads R C_f_stages) (hs_f_stages : Sl C_f_stages v_f_stages f.stages) (hl_p : p.length = 12) {r : (Int × Int × Bool)} (hM : (zaW w__River_Down w__River_Travel w__River_Springs w__River_Towns w__River_Delay_Lo w__River_Delay_Hi w__River_Floods f p).Ends r) (w : World) (H : St w w [] R) : Ret Tryz.prog 48 #[.pointer (some ⟨b_w_, 0, none⟩), .agg #[I f.spring, v_f_stages], .agg (encB p).toArray] w fun v w' => ∃ (y0 : Int) (y1 : Int) (y2 : Bool), (y0, y1, y2) = r /\ v = .agg #[I y0, I y1, B y2] /\ St w w' [] R := by
 refine ret_of_WD Tryz.func48 rfl rfl rfl ?_
 replace H : St w w [cMk ([])] R := H.mk0
 have hl_w__River_Down := hs_w__River_Down.len_le
 have hl_w__River_Travel := hs_w__River_Travel.len_le
 have hl_w__River_Springs := hs_w__River_Springs.len_le
 have hl_w__River_Towns := hs_w__River_Towns.len_le
 have hl_w__River_Floods := hs_w__River_Floods.len_le
 have hl_f_stages := hs_f_stages.len_le
 unfold zaW at hM
 refine WD.seq ?_
 refine WD.of ?_
 refine W.region rfl ?_
 refine t_box (v := .pointer (some ⟨b_w_, 0, none⟩)) (cs := [.pointer (some ⟨b_w_, 0, none⟩)]) H rfl rfl ?_
 intro b_1 w1z H
 refine t_box (v := .agg #[I f.spring, v_f_stages]) (cs := [I f.spring, v_f_stages]) H rfl rfl ?_
 intro b_2 w2z H
 refine t_box (v := .agg (encB p).toArray) (cs := encB p) H rfl rfl ?_
 intro b_3 w3z H
 refine t_alloc (cs := [I 0, I 0, B false]) H Al101 rfl ?_
 intro b_4 w4z H
 refine s_nil ?_
 refine WD.seq ?_
 refine WD.of ?_
 refine W.region rfl ?_
 refine s_val (x_bld (ps := [(0, I (-1))]) (zs := [I 0, I 0, B false]) (L' := [I (-1), I 0, B false]) rfl Tryz.underlying101 Al101 rfl (Bd101 Tryz.underlying101) (.cons (cs := [I (-1)]) rfl rfl rfl rfl rfl <| .nil)) ?_
 refine t_alloc (cs := [I 0, I 0, B false]) H Al101 rfl ?_
 intro b_5 w5z H
 refine t_sw 0 0 [I (-1), I 0, B false] (.agg #[I (-1), I 0, B false]) H rfl rfl Sz101 rfl rfl rfl rfl ?_
 intro w6z H
 refine s_nil ?_
 refine WD.seq ?_
 refine WD.seq ?_
 refine WD.of ?_
 refine W.draw (fun W => St w W [cBlk b_5 [I (-1), I 0, B false] 101, cBlk b_4 [I 0, I 0, B false] 101, cBlk b_3 (encB p) 96, cBlk b_2 [I f.spring, v_f_stages] 85, cBlk b_1 [.pointer (some ⟨b_w_, 0, none⟩)] 94, cMk ([])] R) [(0, true), (1, true), (2, true), (3, true), (4, true), (5, true), (6, false)] mixed (by decide +kernel) rfl ?_
 intro w7z hx_
 replace H := H.ext hx_
 clear hx_
 refine ⟨(H.pk [0, 1, 2, 3, 4, 5]), ?_⟩
 refine d_q rfl (fun w' H => x_ld (p := .pointer (some ⟨b_1, 0, none⟩)) (v := .pointer (some ⟨b_w_, 0, none⟩)) rfl (ldb_sc Sc94 (H.blk (k := 4) rfl) rfl)) ?_
 refine d_q rfl (fun w' H => x_nc (a := ⟨b_w_, 0, none⟩) rfl) ?_
 refine d_q rfl (fun w' H => x_fa (a := .pointer (some ⟨b_w_, 0, none⟩)) (v := .pointer (some ⟨b_w_, 0, none⟩)) rfl (fa_blk (o := 0) Fd111_0 Sz29)) ?_
 refine d_q rfl (fun w' H => x_ld (p := .pointer (some ⟨b_w_, 0, none⟩)) (v := .agg #[v_w__River_Down, v_w__River_Travel, v_w__River_Springs, v_w__River_Towns, I w__River_Delay_Lo, I w__River_Delay_Hi, v_w__River_Floods]) rfl (ldb_ag (ds := [v_w__River_Down, v_w__River_Travel, v_w__River_Springs, v_w__River_Towns, I w__River_Delay_Lo, I w__River_Delay_Hi, v_w__River_Floods]) Ag29 Sz29 (h_b_w_.blk H) rfl rfl)) ?_
 refine d_q rfl (fun w' H => x_fa (a := .pointer (some ⟨b_2, 0, none⟩)) (v := .pointer (some ⟨b_2, 0, none⟩)) rfl (fa_blk (o := 0) Fd85_0 Sz3)) ?_
 refine d_q rfl (fun w' H => x_ld (p := .pointer (some ⟨b_2, 0, none⟩)) (v := I f.spring) rfl (ldb_sc Sc3 (H.blk (k := 3) rfl) rfl)) ?_
 refine d_l rfl ?_
 obtain ⟨r9z, hx8z, hM⟩ := M.e_bind hM
 refine s_call cf66 [.agg #[v_w__River_Down, v_w__River_Travel, v_w__River_Springs, v_w__River_Towns, I w__River_Delay_Lo, I w__River_Delay_Hi, v_w__River_Floods], I f.spring] rfl (za2 w__River_Down w__River_Travel w__River_Springs w__River_Towns w__River_Delay_Lo w__River_Delay_Hi w__River_Floods f.spring (hC_w__River_Down.app _) hs_w__River_Down (hC_w__River_Travel.app _) hs_w__River_Travel (hC_w__River_Springs.app _) hs_w__River_Springs (hC_w__River_Towns.app _) hs_w__River_Towns (hC_w__River_Floods.app _) hs_w__River_Floods hx8z _ (H.gt 6)) ?_
 rintro vq w10z ⟨r00, r14, r15, nb0_6, nb1_7, hr11z, hvq, H2_⟩
 subst hr11z
 subst vq
 try dsimp only at hM
 replace H := H.bk H2_
 clear H2_
 refine s_nil ⟨(H.pk [2, 3, 4, 5, 6, 7]), ?_⟩
 refine d_nil ?_
 refine WD.block ?_
 obtain ⟨t12z, hx13z, hM⟩ := M.e_bind hM
 refine WD.range (L := [cBlk b_5 [I (-1), I 0, B false] 101, cBlk nb1_7 [v_w__River_Down, v_w__River_Travel, v_w__River_Springs, v_w__River_Towns, I r14, I r15, v_w__River_Floods] 29, cBlk b_4 [I 0, I 0, B false] 101, cBlk b_3 (encB p) 96, cBlk b_2 [I f.spring, v_f_stages] 85, cBlk b_1 [.pointer (some ⟨b_w_, 0, none⟩)] 94, cBlk nb0_6 [I r00] 3]) [.pointer (some ⟨nb0_6, 0, none⟩), .pointer (some ⟨nb1_7, 0, none⟩)] (H.pk [7, 2, 1, 3, 4, 5, 6, 0]) rfl cf96 ?_
 intro l14z D15z r16z w17z hr18z H
 have hYC : YieldC Tryz.prog ([cMk (D15z :: ([])), cBlk nb1_7 [v_w__River_Down, v_w__River_Travel, v_w__River_Springs, v_w__River_Towns, I r14, I r15, v_w__River_Floods] 29, cBlk b_4 [I 0, I 0, B false] 101, cBlk b_3 (encB p) 96, cBlk b_2 [I f.spring, v_f_stages] 85, cBlk b_1 [.pointer (some ⟨b_w_, 0, none⟩)] 94] ++ R) arII (yJ l14z r16z (fun (s3, s4, s5) Ls_ => Ls_ = [cBlk b_5 [I s3, I s4, B s5] 101]) (fun (_ : Unit) _ => False) (fun _ => .ret)) (.func (.yield l14z) #[] #[]) (M.yl (zaO w__River_Towns f p)) := by
  refine YieldC.mk2 hr18z (fun (s3, s4, s5) Ls_ => Ls_ = [cBlk b_5 [I s3, I s4, B s5] 101]) (fun (_ : Unit) _ => False) (fun _ => .ret) (zaO w__River_Towns f p) (by rintro ⟨s3, s4, s5⟩ _ h_; obtain ⟨rfl⟩ := h_; rfl) (fun _ _ h_ => h_.elim) rfl (arII_len rfl) ?_
  intro C_ vs_ x_ hA_
  obtain ⟨x, x2⟩ := x_
  obtain rfl := hA_
  intro w R hR_ Ls_ s_ r hY_ hM H
  obtain ⟨s3, s4, s5⟩ := s_
  obtain ⟨rfl⟩ := hY_
  replace H := H.nf
  refine W.seq ?_
  refine W.region rfl ?_
  refine t_alloc (cs := [I 0]) H Al3 rfl ?_
  intro b_8 w19z H
  refine t_sw 0 0 [I x] (I x) H rfl rfl Sz3 rfl rfl rfl rfl ?_
  intro w20z H
  refine s_nil ?_
  refine W.region rfl ?_
  refine t_alloc (cs := [I 0]) H Al3 rfl ?_
  intro b_9 w21z H
  refine t_sw 0 0 [I x2] (I x2) H rfl rfl Sz3 rfl rfl rfl rfl ?_
  intro w22z H
  refine s_nil ?_
  refine ⟨rfl, [cBlk b_9 [I x2] 3, cBlk b_8 [I x] 3], H.pick [0, 1, 2, 3, 4, 5, 6, 7, 8] (by decide) rfl, ?_⟩
  clear H hR_
  intro w R hR_ H
  replace hC_w__River_Down := hC_w__River_Down.sub hR_
  replace hC_w__River_Travel := hC_w__River_Travel.sub hR_
  replace hC_w__River_Springs := hC_w__River_Springs.sub hR_
  replace hC_w__River_Towns := hC_w__River_Towns.sub hR_
  replace hC_w__River_Floods := hC_w__River_Floods.sub hR_
  replace h_b_w_ := h_b_w_.sub hR_
  replace hC_f_stages := hC_f_stages.sub hR_
  replace hM : (zaO w__River_Towns f p (s3, s4, s5) (x, x2)).Ends r := hM
  simp only [zaO] at hM
  replace H := H.nf
  refine W.block ?_
  refine W.seq ?_
  refine W.seq ?_
  refine W.region rfl ?_
  refine s_val (x_ld (p := .pointer (some ⟨b_9, 0, none⟩)) (v := I x2) rfl (ldb_sc Sc3 (H.blk (k := 0) rfl) rfl)) ?_
  obtain ⟨sd23z, hM⟩ := M.e_grd hM
  simp only [Bool.and_eq_true, decide_eq_true_eq] at sd23z
  refine s_val (x_ix (a := .pointer (some ⟨b_3, 0, none⟩)) (b := I x2) (v := .pointer (some ⟨b_3, 0 + Int.toNat x2, none⟩)) rfl rfl (run_indexArr Tryz.underlying96 Sz4 (by omega) (by omega))) ?_
  refine s_val (x_ld (p := .pointer (some ⟨b_3, 0 + Int.toNat x2, none⟩)) (v := B (p.getD (Int.toNat x2) false)) rfl (ldArr Sc4 (H.blk (k := 6) rfl) (by omega) (by have hl_ := hl_p; omega))) ?_
  refine s_val (x_mv (v := B (p.getD (Int.toNat x2) false)) rfl) ?_
  refine g_val (p.getD (Int.toNat x2) false) (gy_t rfl) (fun hg => x_fa (a := .pointer (some ⟨b_5, 0, none⟩)) (v := .pointer (some ⟨b_5, 0, none⟩)) rfl (fa_blk (o := 0) Fd101_0 Sz3)) ?_
  refine g_val (p.getD (Int.toNat x2) false) (gy_t rfl) (fun hg => x_ld (p := .pointer (some ⟨b_5, 0, none⟩)) (v := I s3) (gd_of (c := p.getD (Int.toNat x2) false) hg (.pointer (some ⟨b_5, 0, none⟩))) (ldb_sc Sc3 (H.blk (k := 2) rfl) rfl)) ?_
  refine g_val (p.getD (Int.toNat x2) false) (gy_t rfl) (fun hg => x_cmp (kd := .i64) (a := s3) (b := -1) (r := s3 == (-1)) (gd_of (c := p.getD (Int.toNat x2) false) hg (I s3)) rfl rfl) ?_
  refine s_val (x_pand (b := p.getD (Int.toNat x2) false) (r := s3 == (-1)) rfl (fun hb => gd_of (c := p.getD (Int.toNat x2) false) (by first | exact hb | (rw [hb]; rfl) | simp_all) (B (s3 == (-1)))) rfl) ?_
  refine s_nil ?_
  refine W.cond ((p.getD (Int.toNat x2) false) && (s3 == (-1))) rfl (fun c24z => ?_) (fun c24z => ?_)
  ·replace hM := M.e_t hM c24z
   refine W.draw (fun W => St w W [cBlk b_9 [I x2] 3, cBlk b_8 [I x] 3, cMk (D15z :: ([])), cBlk nb1_7 [v_w__River_Down, v_w__River_Travel, v_w__River_Springs, v_w__River_Towns, I r14, I r15, v_w__River_Floods] 29, cBlk b_4 [I 0, I 0, B false] 101, cBlk b_3 (encB p) 96, cBlk b_2 [I f.spring, v_f_stages] 85, cBlk b_1 [.pointer (some ⟨b_w_, 0, none⟩)] 94] R) [(0, true), (1, true), (2, true), (3, true), (4, true), (5, true), (6, true), (7, false), (8, true), (9, false)] mixed (by decide +kernel) rfl ?_
   intro w25z hx_
   replace H := H.ext hx_
   clear hx_
   refine ⟨(H.pk [0, 1, 3, 4, 5, 6, 7, 8]), ?_⟩
   refine d_q rfl (fun w' H => x_ld (p := .pointer (some ⟨b_9, 0, none⟩)) (v := I x2) rfl (ldb_sc Sc3 (H.blk (k := 0) rfl) rfl)) ?_
   refine d_q rfl (fun w' H => x_fa (a := .pointer (some ⟨b_2, 0, none⟩)) (v := .pointer (some ⟨b_2, 1, none⟩)) rfl (fa_blk (o := 0) Fd85_1 Sz22)) ?_
   refine d_q rfl (fun w' H => x_ld (p := .pointer (some ⟨b_2, 1, none⟩)) (v := v_f_stages) rfl (ldb_sc Sc22 (H.blk (k := 6) rfl) rfl)) ?_
   refine d_q rfl (fun w' H => x_ld (p := .pointer (some ⟨b_8, 0, none⟩)) (v := I x) rfl (ldb_sc Sc3 (H.blk (k := 1) rfl) rfl)) ?_
   obtain ⟨sd26z, hM⟩ := M.e_grd hM
   simp only [Bool.and_eq_true, decide_eq_true_eq] at sd26z
   refine d_q rfl (fun w' H => x_ix (a := v_f_stages) (b := I x) (v := vat v_f_stages 1 (Int.toNat x)) rfl rfl (Sl.ix (α := Int) T22.und T22.size hs_f_stages (by omega) (by omega))) ?_
   refine d_q rfl (fun w' H => x_ld (p := vat v_f_stages 1 (Int.toNat x)) (v := I (f.stages.getD (Int.toNat x) 0)) rfl (ld_sc Sc3 (At.mono (Int_at hs_f_stages (i := x) (by omega) (by omega)) (hC_f_stages.at H)))) ?_
   refine d_q rfl (fun w' H => x_fa (a := .pointer (some ⟨b_5, 0, none⟩)) (v := .pointer (some ⟨b_5, 0, none⟩)) rfl (fa_blk (o := 0) Fd101_0 Sz3)) ?_
   refine d_l rfl ?_
   refine t_sw 2 0 [I x2] (I x2) H rfl rfl Sz3 rfl rfl rfl rfl ?_
   intro w27z H
   refine s_nil ⟨(H.pk [0, 1, 3, 4, 5, 6, 7, 8]), ?_⟩
   refine d_q rfl (fun w' H => x_fa (a := .pointer (some ⟨b_5, 0, none⟩)) (v := .pointer (some ⟨b_5, 1, none⟩)) rfl (fa_blk (o := 0) Fd101_1 Sz3)) ?_
   refine d_l rfl ?_
   refine t_sw 2 1 [I (f.stages.getD (Int.toNat x) 0)] (I (f.stages.getD (Int.toNat x) 0)) H rfl rfl Sz3 rfl rfl rfl rfl ?_
   intro w28z H
   refine s_nil ⟨(H.pk [0, 1, 3, 4, 5, 6, 7, 8]), ?_⟩
   refine d_nil ?_
   refine W.seq ?_
   refine W.region rfl ?_
   refine s_val (x_ld (p := .pointer (some ⟨b_1, 0, none⟩)) (v := .pointer (some ⟨b_w_, 0, none⟩)) rfl (ldb_sc Sc94 (H.blk (k := 8) rfl) rfl)) ?_
   refine s_val (x_nc (a := ⟨b_w_, 0, none⟩) rfl) ?_
   refine s_val (x_fa (a := .pointer (some ⟨b_w_, 0, none⟩)) (v := .pointer (some ⟨b_w_, 0, none⟩)) rfl (fa_blk (o := 0) Fd111_0 Sz29)) ?_
   refine s_val (x_fa (a := .pointer (some ⟨b_w_, 0, none⟩)) (v := .pointer (some ⟨b_w_, 3, none⟩)) rfl (fa_blk (o := 0) Fd29_3 Sz24)) ?_
   refine s_val (x_ld (p := .pointer (some ⟨b_w_, 3, none⟩)) (v := v_w__River_Towns) rfl (ldb_sc Sc24 (h_b_w_.blk H) rfl)) ?_
   refine s_val (x_mf (fs := []) (cs := [.pointer (some ⟨b_9, 0, none⟩), .pointer (some ⟨b_2, 0, none⟩), .pointer (some ⟨b_8, 0, none⟩)]) rfl rfl) ?_
   obtain ⟨r30z, hx29z, hM⟩ := M.e_bind hM
   refine s_call cf92 [v_w__River_Towns, .func (.func 93) #[] #[.pointer (some ⟨b_9, 0, none⟩), .pointer (some ⟨b_2, 0, none⟩), .pointer (some ⟨b_8, 0, none⟩)]] rfl (zcb w__River_Towns (fun xqz => zbh xqz x2 f.spring f.stages x) (hC_w__River_Towns.app _) hs_w__River_Towns ⟨93, [.pointer (some ⟨b_9, 0, none⟩), .pointer (some ⟨b_2, 0, none⟩), .pointer (some ⟨b_8, 0, none⟩)], rfl, cf93, fun wqz Lqz Cqz vqz xqz bqz hsqz hCqz hAqz hpqz => by obtain rfl := Town_arg hAqz; exact (zcO xqz x2 f.spring f.stages x (Has.app (Has.here (k := 0) rfl) _) (Reads.app (hC_f_stages.app _) _) hs_f_stages (Has.app (Has.here (k := 7) rfl) _) (Has.app (Has.here (k := 1) rfl) _) hpqz wqz (St.refl hsqz)).mono fun vqz wqz ⟨yqz, hrqz, hvqz, Hqz⟩ => by subst hrqz; exact ⟨hvqz, Hqz⟩⟩ hx29z _ (H.gt 9)) ?_
   rintro vq w31z ⟨r2, hr32z, hvq, H2_⟩
   subst hr32z
   subst vq
   try dsimp only at hM
   replace H := H.bk H2_
   clear H2_
   refine s_nil ?_
   refine W.cond r2 rfl (fun c33z => ?_) (fun c33z => ?_)
   ·replace hM := M.e_t hM c33z
    refine W.region rfl ?_
    refine s_val (x_fa (a := .pointer (some ⟨b_5, 0, none⟩)) (v := .pointer (some ⟨b_5, 2, none⟩)) rfl (fa_blk (o := 0) Fd101_2 Sz4)) ?_
    refine t_sw 2 2 [B true] (B true) H rfl rfl Sz4 rfl rfl rfl rfl ?_
    intro w34z H
    refine s_nil ?_
    exact ⟨(x2, f.stages.getD (Int.toNat x) 0, true), [cBlk b_5 [I x2, I (f.stages.getD (Int.toNat x) 0), B true] 101], (M.e_pure hM).symm, rfl, H.pick [2, 3, 4, 5, 6, 7, 8] (by decide) rfl⟩
   replace hM := M.e_f hM c33z
   refine W.skip ?_
   exact ⟨(x2, f.stages.getD (Int.toNat x) 0, s5), [cBlk b_5 [I x2, I (f.stages.getD (Int.toNat x) 0), B s5] 101], (M.e_pure hM).symm, rfl, H.pick [2, 3, 4, 5, 6, 7, 8] (by decide) rfl⟩
  replace hM := M.e_f hM c24z
  refine W.skip ?_
  refine W.seq ?_
  refine W.region rfl ?_
  refine s_val (x_ld (p := .pointer (some ⟨b_1, 0, none⟩)) (v := .pointer (some ⟨b_w_, 0, none⟩)) rfl (ldb_sc Sc94 (H.blk (k := 8) rfl) rfl)) ?_
  refine s_val (x_nc (a := ⟨b_w_, 0, none⟩) rfl) ?_
  refine s_val (x_fa (a := .pointer (some ⟨b_w_, 0, none⟩)) (v := .pointer (some ⟨b_w_, 0, none⟩)) rfl (fa_blk (o := 0) Fd111_0 Sz29)) ?_
  refine s_val (x_fa (a := .pointer (some ⟨b_w_, 0, none⟩)) (v := .pointer (some ⟨b_w_, 3, none⟩)) rfl (fa_blk (o := 0) Fd29_3 Sz24)) ?_
  refine s_val (x_ld (p := .pointer (some ⟨b_w_, 3, none⟩)) (v := v_w__River_Towns) rfl (ldb_sc Sc24 (h_b_w_.blk H) rfl)) ?_
  refine s_val (x_mf (fs := []) (cs := [.pointer (some ⟨b_9, 0, none⟩), .pointer (some ⟨b_2, 0, none⟩), .pointer (some ⟨b_8, 0, none⟩)]) rfl rfl) ?_
  obtain ⟨r36z, hx35z, hM⟩ := M.e_bind hM
  refine s_call cf92 [v_w__River_Towns, .func (.func 93) #[] #[.pointer (some ⟨b_9, 0, none⟩), .pointer (some ⟨b_2, 0, none⟩), .pointer (some ⟨b_8, 0, none⟩)]] rfl (zcb w__River_Towns (fun xqz => zbh xqz x2 f.spring f.stages x) (hC_w__River_Towns.app _) hs_w__River_Towns ⟨93, [.pointer (some ⟨b_9, 0, none⟩), .pointer (some ⟨b_2, 0, none⟩), .pointer (some ⟨b_8, 0, none⟩)], rfl, cf93, fun wqz Lqz Cqz vqz xqz bqz hsqz hCqz hAqz hpqz => by obtain rfl := Town_arg hAqz; exact (zcO xqz x2 f.spring f.stages x (Has.app (Has.here (k := 0) rfl) _) (Reads.app (hC_f_stages.app _) _) hs_f_stages (Has.app (Has.here (k := 7) rfl) _) (Has.app (Has.here (k := 1) rfl) _) hpqz wqz (St.refl hsqz)).mono fun vqz wqz ⟨yqz, hrqz, hvqz, Hqz⟩ => by subst hrqz; exact ⟨hvqz, Hqz⟩⟩ hx35z _ (H.gt 9)) ?_
  rintro vq w37z ⟨r2, hr38z, hvq, H2_⟩
  subst hr38z
  subst vq
  try dsimp only at hM
  replace H := H.bk H2_
  clear H2_
  refine s_nil ?_
  refine W.cond r2 rfl (fun c39z => ?_) (fun c39z => ?_)
  ·replace hM := M.e_t hM c39z
   refine W.region rfl ?_
   refine s_val (x_fa (a := .pointer (some ⟨b_5, 0, none⟩)) (v := .pointer (some ⟨b_5, 2, none⟩)) rfl (fa_blk (o := 0) Fd101_2 Sz4)) ?_
   refine t_sw 2 2 [B true] (B true) H rfl rfl Sz4 rfl rfl rfl rfl ?_
   intro w40z H
   refine s_nil ?_
   exact ⟨(s3, s4, true), [cBlk b_5 [I s3, I s4, B true] 101], (M.e_pure hM).symm, rfl, H.pick [2, 3, 4, 5, 6, 7, 8] (by decide) rfl⟩
  replace hM := M.e_f hM c39z
  refine W.skip ?_
  exact ⟨(s3, s4, s5), [cBlk b_5 [I s3, I s4, B s5] 101], (M.e_pure hM).symm, rfl, H.pick [2, 3, 4, 5, 6, 7, 8] (by decide) rfl⟩
 replace H : St w w17z (cAll (cObj l14z (.loop r16z) :: [cBlk b_5 [I (-1), I 0, B false] 101]) :: [cBlk nb0_6 [I r00] 3, cMk (D15z :: ([])), cBlk nb1_7 [v_w__River_Down, v_w__River_Travel, v_w__River_Springs, v_w__River_Towns, I r14, I r15, v_w__River_Floods] 29, cBlk b_4 [I 0, I 0, B false] 101, cBlk b_3 (encB p) 96, cBlk b_2 [I f.spring, v_f_stages] 85, cBlk b_1 [.pointer (some ⟨b_w_, 0, none⟩)] 94]) R := St.bundleB (A := cObj l14z (.loop r16z) :: [cBlk b_5 [I (-1), I 0, B false] 101]) (T := [cBlk nb0_6 [I r00] 3, cMk (D15z :: ([])), cBlk nb1_7 [v_w__River_Down, v_w__River_Travel, v_w__River_Springs, v_w__River_Towns, I r14, I r15, v_w__River_Floods] 29, cBlk b_4 [I 0, I 0, B false] 101, cBlk b_3 (encB p) 96, cBlk b_2 [I f.spring, v_f_stages] 85, cBlk b_1 [.pointer (some ⟨b_w_, 0, none⟩)] 94]) rfl (H.pk [0, 2, 8, 1, 3, 4, 5, 6, 7])
 refine (za3 (M.yl (zaO w__River_Towns f p)) (.inl (-1, 0, false)) r00 w__River_Down w__River_Travel w__River_Springs w__River_Towns r14 r15 w__River_Floods hYC ⟨_, rfl, rfl⟩ (hC_w__River_Down.app _) hs_w__River_Down (hC_w__River_Travel.app _) hs_w__River_Travel (hC_w__River_Springs.app _) hs_w__River_Springs (hC_w__River_Towns.app _) hs_w__River_Towns (hC_w__River_Floods.app _) hs_w__River_Floods (Has.here (k := 1) rfl) hx13z _ (H.gt 6)).mono ?_
 rintro vq w41z ⟨t45z, q0, Ls43z, hq46z, hvq, H2_, hY44z⟩
 subst hq46z
 replace H := H.back H2_ rfl
 clear H2_ hYC
 rcases t45z with ⟨s3, s4, s5⟩ | _
 ·try dsimp only at hM
  obtain ⟨_, rfl, rfl⟩ := hY44z
  refine ⟨_, [cBlk b_5 [I s3, I s4, B s5] 101, cBlk nb1_7 [v_w__River_Down, v_w__River_Travel, v_w__River_Springs, v_w__River_Towns, I r14, I r15, v_w__River_Floods] 29, cBlk b_4 [I 0, I 0, B false] 101, cBlk b_3 (encB p) 96, cBlk b_2 [I f.spring, v_f_stages] 85, cBlk b_1 [.pointer (some ⟨b_w_, 0, none⟩)] 94, cBlk nb0_6 [I q0] 3], H.unbundle.pick [0, 3, 1, 4, 5, 6, 7, 8, 2] (by decide) rfl, hr18z.nb, ?_⟩
  intro w42z H
  rw [hr18z.pd]
  replace H := H.nf
  try simp only []
  replace H := H.pk [0, 1, 3]
  refine WD.seq ?_
  refine WD.of ?_
  refine W.region rfl ?_
  refine s_val (x_ld (p := .pointer (some ⟨b_5, 0, none⟩)) (v := .agg #[I s3, I s4, B s5]) rfl (ldb_ag (ds := [I s3, I s4, B s5]) Ag101 Sz101 (H.blk (k := 1) rfl) rfl rfl)) ?_
  refine t_sw 2 0 [I s3, I s4, B s5] (.agg #[I s3, I s4, B s5]) H rfl rfl Sz101 rfl rfl rfl rfl ?_
  intro w47z H
  refine s_nil ?_
  refine WD.of ?_
  refine W.ret ?_
  refine bodyD_r (H.pk [0, 1, 2]) ?_
  intro w48z H
  replace H := H.nf
  have hb49z := (H.blk (k := 1) rfl)
  have hr_ := M.e_pure hM
  exact ⟨_, (resE_of1 (v := .agg #[I s3, I s4, B s5]) rfl (.cell (v := .agg #[I s3, I s4, B s5]) rfl (run_loadVar_ag (ds := [I s3, I s4, B s5]) Ag101 Sz101 hb49z rfl rfl) <| .nil)), ⟨s3, s4, s5, hr_, rfl, (H.pk [])⟩⟩
 obtain ⟨_, _, h_⟩ := hY44z; exact h_.elim

def zcR (x : Rpt) (k02 : Int) : M Bool :=
  M.pure (x.danger && (x.watch == k02))
theorem zc3 {R : List Chunk} {b_k0 : Nat} (x : Rpt) (k02 : Int) (h_b_k0 : Has R (cBlk b_k0 [I k02] 3)) {r : Bool} (hM : (zcR x k02).Ends r) (w : World) (H : St w w [] R) : Ret Tryz.prog 52 #[.agg #[I x.watch, I x.stage, B x.danger], .pointer (some ⟨b_k0, 0, none⟩)] w fun v w' => ∃ (y0 : Bool), y0 = r /\ v = B y0 /\ St w w' [] R := by
 refine ret_of_W Tryz.func52 rfl rfl rfl ?_
 refine W.seq ?_
 refine W.region rfl ?_
 refine t_box (v := .agg #[I x.watch, I x.stage, B x.danger]) (cs := [I x.watch, I x.stage, B x.danger]) H rfl rfl ?_
 intro b_1 w1z H
 refine s_val (x_as (v := B false) rfl) ?_
 refine s_nil ?_
 refine W.seq ?_
 refine W.region rfl ?_
 refine s_val (x_fa (a := .pointer (some ⟨b_1, 0, none⟩)) (v := .pointer (some ⟨b_1, 2, none⟩)) rfl (fa_blk (o := 0) Fd101_2 Sz4)) ?_
 refine s_val (x_ld (p := .pointer (some ⟨b_1, 2, none⟩)) (v := B x.danger) rfl (ldb_sc Sc4 (H.blk (k := 0) rfl) rfl)) ?_
 refine s_val (x_mv (v := B x.danger) rfl) ?_
 refine g_val x.danger (gy_t rfl) (fun hg => x_fa (a := .pointer (some ⟨b_1, 0, none⟩)) (v := .pointer (some ⟨b_1, 0, none⟩)) rfl (fa_blk (o := 0) Fd101_0 Sz3)) ?_
 refine g_val x.danger (gy_t rfl) (fun hg => x_ld (p := .pointer (some ⟨b_1, 0, none⟩)) (v := I x.watch) (gd_of (c := x.danger) hg (.pointer (some ⟨b_1, 0, none⟩))) (ldb_sc Sc3 (H.blk (k := 0) rfl) rfl)) ?_
 refine g_val x.danger (gy_t rfl) (fun hg => x_ld (p := .pointer (some ⟨b_k0, 0, none⟩)) (v := I k02) rfl (ldb_sc Sc3 (h_b_k0.blk H) rfl)) ?_
 refine g_val x.danger (gy_t rfl) (fun hg => x_cmp (kd := .i64) (a := x.watch) (b := k02) (r := x.watch == k02) (gd_of (c := x.danger) hg (I x.watch)) (gd_of (c := x.danger) hg (I k02)) rfl) ?_
 refine s_val (x_pand (b := x.danger) (r := x.watch == k02) rfl (fun hb => gd_of (c := x.danger) (by first | exact hb | (rw [hb]; rfl) | simp_all) (B (x.watch == k02))) rfl) ?_
 refine s_val (x_as (v := B (x.danger && (x.watch == k02))) rfl) ?_
 refine s_nil ?_
 refine W.ret ?_
 have hr_ := M.e_pure hM
 exact ⟨_, resE_tmp rfl, ⟨(x.danger && (x.watch == k02)), hr_, rfl, (H.pk [])⟩⟩

def zb3 (w__River_Down : List Int) (w__River_Travel : List Span) (w__River_Springs : List Int) (w__River_Towns : List Town) (w__River_Delay_Lo : Int) (w__River_Delay_Hi : Int) (w__River_Floods : List Flood) (p : List Bool) (r_002 : Int) : (Nat × (List Int)) -> M ((Nat × (List Int)) ⊕ ((List Int) × (List Int))) := fun (s, l) =>
  bif decide ((s : Int) < (w__River_Floods.length : Int)) then (
  M.grd (decide ((s : Int) < (w__River_Floods.length : Int))) <|
  M.bind (zaW w__River_Down w__River_Travel w__River_Springs w__River_Towns w__River_Delay_Lo w__River_Delay_Hi w__River_Floods (w__River_Floods.getD s default) p) fun (r0, r1, r2) =>
  M.bind (zcR (⟨(r0 : Int), (r1 : Int), r2⟩ : Rpt) r_002) fun r3 =>
  bif r3 then (
  M.grd (decide ((l.length + ([(s : Int)]).length) * 8 <= 140737488355328)) <|
  M.pure (.inl (s + 1, l ++ ([(s : Int)]))))
  else (
  M.pure (.inl (s + 1, l))))
  else (
  M.pure (.inr (l, l)))
def zcC (w__River_Down : List Int) (w__River_Travel : List Span) (w__River_Springs : List Int) (w__River_Towns : List Town) (w__River_Delay_Lo : Int) (w__River_Delay_Hi : Int) (w__River_Floods : List Flood) (p : List Bool) (r_002 : Int) : M (List Int) :=
  M.bind (M.iter (zb3 w__River_Down w__River_Travel w__River_Springs w__River_Towns w__River_Delay_Lo w__River_Delay_Hi w__River_Floods p r_002) (0, [])) fun (l2, l3) =>
  M.pure l3
theorem zdf {R : List Chunk} {b_w_ : Nat} {C_w__River_Down : Cells} {v_w__River_Down : Value} {C_w__River_Travel : Cells} {v_w__River_Travel : Value} {C_w__River_Springs : Cells} {v_w__River_Springs : Value} {C_w__River_Towns : Cells} {v_w__River_Towns : Value} {C_w__River_Floods : Cells} {v_w__River_Floods : Value} {b_w__found : Nat} {b_r_00 : Nat} (w__River_Down : List Int) (w__River_Travel : List Span) (w__River_Springs : List Int) (w__River_Towns : List Town) (w__River_Delay_Lo : Int) (w__River_Delay_Hi : Int) (w__River_Floods : List Flood) (p : List Bool) (r_002 : Int) (hC_w__River_Down : Reads R C_w__River_Down) (hs_w__River_Down : Sl C_w__River_Down v_w__River_Down w__River_Down) (hC_w__River_Travel : Reads R C_w__River_Travel) (hs_w__River_Travel : Sl C_w__River_Travel v_w__River_Travel w__River_Travel) (hC_w__River_Springs : Reads R C_w__River_Springs) (hs_w__River_Springs : Sl C_w__River_Springs v_w__River_Springs w__River_Springs) (hC_w__River_Towns : Reads R C_w__River_Towns) (hs_w__River_Towns : Sl C_w__River_Towns v_w__River_Towns w__River_Towns) (hC_w__River_Floods : Reads R C_w__River_Floods) (hs_w__River_Floods : Sl C_w__River_Floods v_w__River_Floods w__River_Floods) (h_b_w_ : Has R (cBlk b_w_ [v_w__River_Down, v_w__River_Travel, v_w__River_Springs, v_w__River_Towns, I w__River_Delay_Lo, I w__River_Delay_Hi, v_w__River_Floods, .map (some b_w__found)] 111)) (hl_p : p.length = 12) (h_b_r_00 : Has R (cBlk b_r_00 [I r_002] 3)) {r : (List Int)} (hM : (zcC w__River_Down w__River_Travel w__River_Springs w__River_Towns w__River_Delay_Lo w__River_Delay_Hi w__River_Floods p r_002).Ends r) (w : World) (H : St w w [] R) : Ret Tryz.prog 51 #[.pointer (some ⟨b_w_, 0, none⟩), .agg (encB p).toArray, .agg #[.func (.func 52) #[] #[.pointer (some ⟨b_r_00, 0, none⟩)]]] w fun v w' => ∃ (y0 : List Int) (u0 : Value), y0 = r /\ v = u0 /\ St w w' [cOwn (α := Int) 3 u0 y0] R := by
 refine ret_of_W Tryz.func51 rfl rfl rfl ?_
 refine W.seq ?_
 refine W.region rfl ?_
 refine t_box (v := .agg (encB p).toArray) (cs := encB p) H rfl rfl ?_
 intro b_1 w1z H
 refine t_box (v := .agg #[.func (.func 52) #[] #[.pointer (some ⟨b_r_00, 0, none⟩)]]) (cs := [.func (.func 52) #[] #[.pointer (some ⟨b_r_00, 0, none⟩)]]) H rfl rfl ?_
 intro b_2 w2z H
 refine s_val (x_as (v := .slice none 0 0) rfl) ?_
 refine s_nil ?_
 refine W.seq ?_
 refine W.region rfl ?_
 refine s_val (x_as (v := .slice none 0 0) rfl) ?_
 refine s_nil ?_
 refine W.seq ?_
 refine W.seq ?_
 refine W.region rfl ?_
 refine s_val (x_mv (v := .pointer (some ⟨b_w_, 0, none⟩)) rfl) ?_
 refine s_val (x_nc (a := ⟨b_w_, 0, none⟩) rfl) ?_
 refine s_val (x_fa (a := .pointer (some ⟨b_w_, 0, none⟩)) (v := .pointer (some ⟨b_w_, 0, none⟩)) rfl (fa_blk (o := 0) Fd111_0 Sz29)) ?_
 refine s_val (x_fa (a := .pointer (some ⟨b_w_, 0, none⟩)) (v := .pointer (some ⟨b_w_, 6, none⟩)) rfl (fa_blk (o := 0) Fd29_5 Sz27)) ?_
 refine s_val (x_ld (p := .pointer (some ⟨b_w_, 6, none⟩)) (v := v_w__River_Floods) rfl (ldb_sc Sc27 (h_b_w_.blk H) rfl)) ?_
 have hl3z := (hs_w__River_Floods).len_le
 refine s_val (x_lenS T27.und rfl hs_w__River_Floods) ?_
 refine s_val (x_mv (v := I 0) rfl) ?_
 refine s_nil ?_
 refine W.block ?_
 replace H := H.nilOwn (α := Int) 3
 obtain ⟨ex4z, hi5z, hk6z⟩ := M.e_bind hM
 obtain ⟨m0_, hi5z⟩ := M.e_iter hi5z
 refine W.loop (fun m σ W => ∃ (s : Nat) (l : List Int) (v_l : Value) (ρ : Env), σ = upds ρ [(0, .pointer (some ⟨b_w_, 0, none⟩)), (4, .pointer (some ⟨b_1, 0, none⟩)), (5, .pointer (some ⟨b_2, 0, none⟩)), (7, v_l), (14, v_w__River_Floods), (15, I (w__River_Floods.length : Int)), (16, I (s : Int))] /\ M.iterN (zb3 w__River_Down w__River_Travel w__River_Springs w__River_Towns w__River_Delay_Lo w__River_Delay_Hi w__River_Floods p r_002) m (s, l) = some ex4z /\ St w W [cOwn (α := Int) 3 v_l l, cBlk b_2 [.func (.func 52) #[] #[.pointer (some ⟨b_r_00, 0, none⟩)]] 108, cBlk b_1 (encB p) 96] R) ?_ ?_
 ·exact ⟨_, 0, [], (.slice none 0 0), _, upds_of _ _ ⟨rfl, rfl, rfl, rfl, rfl, rfl, rfl, trivial⟩, hi5z, H⟩
 rintro m9z σ w7z ⟨s, l, v_l, ρ, rfl, hI8z, H⟩
 obtain ⟨m10z, lt11z, x12z, hM, hN13z⟩ := M.e_iterN hI8z
 simp only [zb3] at hM
 clear hI8z
 refine W.seq ?_
 refine W.region rfl ?_
 refine s_val (x_cmp (kd := .i64) (a := (s : Int)) (b := (w__River_Floods.length : Int)) (r := decide ((s : Int) < (w__River_Floods.length : Int))) rfl rfl rfl) ?_
 refine s_nil ?_
 refine W.seq ?_
 refine W.cond (decide ((s : Int) < (w__River_Floods.length : Int))) rfl (fun c14z => ?_) (fun c14z => ?_)
 ·replace hM := M.e_t hM c14z
  simp only [decide_eq_true_eq, decide_eq_false_iff_not, beq_iff_eq, bne_iff_ne, beq_eq_false_iff_ne, bne_eq_false_iff_eq, ne_eq, Decidable.not_not] at c14z
  refine W.skip ?_
  refine W.seq ?_
  refine W.block ?_
  refine W.seq ?_
  refine W.region rfl ?_
  refine s_val (x_mv (v := I (s : Int)) rfl) ?_
  obtain ⟨sd15z, hM⟩ := M.e_grd hM
  simp only [Bool.and_eq_true, decide_eq_true_eq] at sd15z
  refine s_val (x_ix (a := v_w__River_Floods) (b := I (s : Int)) (v := vat v_w__River_Floods 2 (Int.toNat (s : Int))) rfl rfl (Sl.ix (α := Flood) T27.und T27.size hs_w__River_Floods (by omega) (by omega))) ?_
  obtain ⟨u16z, ha18z, hs17z⟩ := Flood_atA hs_w__River_Floods (i := (s : Int)) (by omega) (by omega)
  replace hs17z : Sl _ u16z (w__River_Floods.getD s default).stages := hs17z
  have hl_hs17z := hs17z.len_le
  refine s_val (x_ld (p := vat v_w__River_Floods 2 (Int.toNat (s : Int))) (v := .agg #[I ((w__River_Floods.getD s default).spring), u16z]) rfl (ld_ag Ag85 Sz85 (At.mono ha18z (hC_w__River_Floods.at H)))) ?_
  refine t_alloc (cs := [I 0, .slice none 0 0]) H Al85 rfl ?_
  intro b_3 w19z H
  refine s_val (x_as (v := I (s : Int)) rfl) ?_
  refine t_sw 0 0 [I ((w__River_Floods.getD s default).spring), u16z] (.agg #[I ((w__River_Floods.getD s default).spring), u16z]) H rfl rfl Sz85 rfl rfl rfl (by simp only [List.all_cons, List.all_nil, Bool.true_and, Bool.and_true, Sl.oc hs17z]; try rfl) ?_
  intro w20z H
  refine s_nil ?_
  refine W.seq ?_
  refine W.draw (fun W => St w W [cBlk b_3 [I ((w__River_Floods.getD s default).spring), u16z] 85, cOwn (α := Int) 3 v_l l, cBlk b_2 [.func (.func 52) #[] #[.pointer (some ⟨b_r_00, 0, none⟩)]] 108, cBlk b_1 (encB p) 96] R) [(0, true), (1, true), (2, true), (3, true), (4, true), (5, false), (6, false)] mixed (by decide +kernel) rfl ?_
  intro w21z hx_
  replace H := H.ext hx_
  clear hx_
  refine ⟨(H.pk [0, 1, 2, 3]), ?_⟩
  refine d_q rfl (fun w' H => x_fa (a := .pointer (some ⟨b_2, 0, none⟩)) (v := .pointer (some ⟨b_2, 0, none⟩)) rfl (fa_blk (o := 0) Fd108_0 Sz106)) ?_
  refine d_q rfl (fun w' H => x_ld (p := .pointer (some ⟨b_2, 0, none⟩)) (v := .func (.func 52) #[] #[.pointer (some ⟨b_r_00, 0, none⟩)]) rfl (ldb_sc Sc106 (H.blk (k := 2) rfl) rfl)) ?_
  refine d_q rfl (fun w' H => x_mv (v := .pointer (some ⟨b_w_, 0, none⟩)) rfl) ?_
  refine d_q rfl (fun w' H => x_ld (p := .pointer (some ⟨b_3, 0, none⟩)) (v := .agg #[I ((w__River_Floods.getD s default).spring), u16z]) rfl (ldb_ag (ds := [I ((w__River_Floods.getD s default).spring), u16z]) Ag85 Sz85 (H.blk (k := 0) rfl) rfl rfl)) ?_
  refine d_q rfl (fun w' H => x_ld (p := .pointer (some ⟨b_1, 0, none⟩)) (v := .agg (encB p).toArray) rfl (ldArrA Ag96 Sz96 hl_p (H.blk (k := 3) rfl))) ?_
  refine d_l rfl ?_
  obtain ⟨r23z, hx22z, hM⟩ := M.e_bind hM
  refine s_call cf48 [.pointer (some ⟨b_w_, 0, none⟩), .agg #[I ((w__River_Floods.getD s default).spring), u16z], .agg (encB p).toArray] rfl (zbl w__River_Down w__River_Travel w__River_Springs w__River_Towns w__River_Delay_Lo w__River_Delay_Hi w__River_Floods (w__River_Floods.getD s default) p (hC_w__River_Down.app _) hs_w__River_Down (hC_w__River_Travel.app _) hs_w__River_Travel (hC_w__River_Springs.app _) hs_w__River_Springs (hC_w__River_Towns.app _) hs_w__River_Towns (hC_w__River_Floods.app _) hs_w__River_Floods (h_b_w_.app _) (hC_w__River_Floods.app _) hs17z hl_p hx22z _ (H.gt 4)) ?_
  rintro vq w24z ⟨r0, r1, r2, hr25z, hvq, H2_⟩
  subst hr25z
  subst vq
  try dsimp only at hM
  replace H := H.bk H2_
  clear H2_
  refine s_nil ⟨(H.pk [0, 1, 2, 3]), ?_⟩
  refine d_l rfl ?_
  obtain ⟨r27z, hx26z, hM⟩ := M.e_bind hM
  refine s_callv (f := 52) rfl cf52 [.agg #[I r0, I r1, B r2]] rfl (zc3 (⟨(r0 : Int), (r1 : Int), r2⟩ : Rpt) r_002 (h_b_r_00.app _) hx26z _ (H.gt 4)) ?_
  rintro vq w28z ⟨r3, hr29z, hvq, H2_⟩
  subst hr29z
  subst vq
  try dsimp only at hM
  replace H := H.bk H2_
  clear H2_
  refine s_nil ⟨(H.pk [0, 1, 2, 3]), ?_⟩
  refine d_nil ?_
  refine W.cond r3 rfl (fun c30z => ?_) (fun c30z => ?_)
  ·replace hM := M.e_t hM c30z
   refine W.region rfl ?_
   refine s_val (x_mv (v := v_l) rfl) ?_
   refine s_val (x_mv (v := I (s : Int)) rfl) ?_
   refine t_bs (α := Int) T22 [I (s : Int)] [(s : Int)] H rfl (.cons rfl (Flat.rep_enc _ (s : Int)) <| .nil) rfl rfl rfl ?_
   intro v31z w32z H
   obtain ⟨sd33z, hM⟩ := M.e_grd hM
   simp only [Bool.and_eq_true, decide_eq_true_eq] at sd33z
   refine t_app (α := Int) (k := 2) (l := l) (l2 := [(s : Int)]) (l' := l ++ ([(s : Int)])) (vy := v31z) T22 rfl H rfl rfl rfl (ownSl (H.get (k := 0) rfl)) (ownLe _ (H.get (k := 0) rfl)) (rfl) (by first | omega | (simp only [List.length_nil] at *; omega)) ?_
   intro v34z w35z H
   replace H := H.nf
   refine s_val (x_as (v := v34z) rfl) ?_
   refine s_nil ?_
   replace H := H.pk [2, 3, 4]
   refine W.region rfl ?_
   refine s_val (x_ari (a := (s : Int)) (b := 1) (r := (s : Int) + 1) rfl rfl rfl (by omega)) ?_
   refine s_val (x_mv (v := I ((s : Int) + 1)) rfl) ?_
   refine s_nil ?_
   exact ⟨m10z, lt11z, s + 1, l ++ ([(s : Int)]), v34z, _, upds_of _ _ ⟨rfl, rfl, rfl, rfl, rfl, rfl, rfl, trivial⟩, M.e_inl hM hN13z, H⟩
  replace hM := M.e_f hM c30z
  refine W.skip ?_
  refine W.region rfl ?_
  refine s_val (x_ari (a := (s : Int)) (b := 1) (r := (s : Int) + 1) rfl rfl rfl (by omega)) ?_
  refine s_val (x_mv (v := I ((s : Int) + 1)) rfl) ?_
  refine s_nil ?_
  exact ⟨m10z, lt11z, s + 1, l, v_l, _, upds_of _ _ ⟨rfl, rfl, rfl, rfl, rfl, rfl, rfl, trivial⟩, M.e_inl hM hN13z, (H.pk [1, 2, 3])⟩
 replace hM := M.e_f hM c14z
 simp only [decide_eq_true_eq, decide_eq_false_iff_not, beq_iff_eq, bne_iff_ne, beq_eq_false_iff_ne, bne_eq_false_iff_eq, ne_eq, Decidable.not_not] at c14z
 refine W.exit ?_
 have hX36z := M.e_inr hM hN13z
 subst hX36z
 replace hM := hk6z
 try dsimp only at hM
 replace H := H.pk [0]
 refine W.seq ?_
 refine W.region rfl ?_
 refine s_val (x_mv (v := v_l) rfl) ?_
 refine s_val (x_as (v := v_l) rfl) ?_
 refine s_nil ?_
 refine W.ret ?_
 have hr_ := M.e_pure hM
 exact ⟨_, resE_tmp rfl, ⟨l, v_l, hr_, rfl, H⟩⟩

def zb2 (r__Down : List Int) (r__Travel : List Span) (r__Springs : List Int) (r__Towns : List Town) (r__Floods : List Flood) (r04 : Int) (r05 : Int) (r12 : List Bool) (r3 : List Int) : (Int × Int × Nat) -> M ((Int × Int × Nat) ⊕ (Int × Int)) := fun (least, flood, s) =>
  bif decide ((s : Int) < (r3.length : Int)) then (
  M.grd (decide ((s : Int) < (r3.length : Int))) <|
  M.grd (decide ((0 : Int) <= (r3.getD s 0)) && decide ((r3.getD s 0) < (r__Floods.length : Int))) <|
  M.bind (zaW r__Down r__Travel r__Springs r__Towns r04 r05 r__Floods (r__Floods.getD (Int.toNat (r3.getD s 0)) default) r12) fun (r0, r13, r23) =>
  bif decide (r13 < least) then (
  M.pure (.inl (r13, r3.getD s 0, s + 1)))
  else (
  M.pure (.inl (least, flood, s + 1))))
  else (
  M.pure (.inr (least, flood)))
def zch (r__Down : List Int) (r__Travel : List Span) (r__Springs : List Int) (r__Towns : List Town) (r__Floods : List Flood) (watches : List Int) (r04 : Int) (r05 : Int) (r12 : List Bool) : (Nat × (List Int) × (List Int)) -> M ((Nat × (List Int) × (List Int)) ⊕ ((List Int) × (List Int) × (List Int) × (List Int))) := fun (s2, l, l2) =>
  bif decide ((s2 : Int) < (watches.length : Int)) then (
  M.grd (decide ((s2 : Int) < (watches.length : Int))) <|
  M.bind (zcC r__Down r__Travel r__Springs r__Towns r04 r05 r__Floods r12 (watches.getD s2 0)) fun r3 =>
  M.bind (M.iter (zb2 r__Down r__Travel r__Springs r__Towns r__Floods r04 r05 r12 r3) (2001, -1, 0)) fun (least2, flood2) =>
  M.grd (decide ((l.length + ([(least2 : Int)]).length) * 8 <= 140737488355328)) <|
  M.grd (decide ((l2.length + ([(flood2 : Int)]).length) * 8 <= 140737488355328)) <|
  M.pure (.inl (s2 + 1, l ++ ([(least2 : Int)]), l2 ++ ([(flood2 : Int)]))))
  else (
  M.pure (.inr (l, l2, l2, l)))
def zcn (r__Down : List Int) (r__Travel : List Span) (r__Springs : List Int) (r__Towns : List Town) (r__Delay_Lo : Int) (r__Delay_Hi : Int) (r__Floods : List Flood) (watches : List Int) : M ((List Int) × (List Int) × Int) :=
  M.bind (zbW r__Down r__Travel r__Springs r__Towns r__Delay_Lo r__Delay_Hi r__Floods watches) fun x_ => match x_ with
  | (.inl (r1, r2)) => (
  bif r2 != 0 then (
  M.pure (([]), ([]), r2))
  else (
  M.fail))
  | (.inr (r04, r05, r12, r22)) => (
  bif r22 != 0 then (
  M.fail)
  else (
  M.bind (M.iter (zch r__Down r__Travel r__Springs r__Towns r__Floods watches r04 r05 r12) (0, [], [])) fun (l3, l4, l5, l6) =>
  M.pure (l6, l5, 0)))
theorem zcx {R : List Chunk} {C_r__Down : Cells} {v_r__Down : Value} {C_r__Travel : Cells} {v_r__Travel : Value} {C_r__Springs : Cells} {v_r__Springs : Value} {C_r__Towns : Cells} {v_r__Towns : Value} {C_r__Floods : Cells} {v_r__Floods : Value} {C_watches : Cells} {v_watches : Value} (r__Down : List Int) (r__Travel : List Span) (r__Springs : List Int) (r__Towns : List Town) (r__Delay_Lo : Int) (r__Delay_Hi : Int) (r__Floods : List Flood) (watches : List Int) (hC_r__Down : Reads R C_r__Down) (hs_r__Down : Sl C_r__Down v_r__Down r__Down) (hC_r__Travel : Reads R C_r__Travel) (hs_r__Travel : Sl C_r__Travel v_r__Travel r__Travel) (hC_r__Springs : Reads R C_r__Springs) (hs_r__Springs : Sl C_r__Springs v_r__Springs r__Springs) (hC_r__Towns : Reads R C_r__Towns) (hs_r__Towns : Sl C_r__Towns v_r__Towns r__Towns) (hC_r__Floods : Reads R C_r__Floods) (hs_r__Floods : Sl C_r__Floods v_r__Floods r__Floods) (hC_watches : Reads R C_watches) (hs_watches : Sl C_watches v_watches watches) {r : ((List Int) × (List Int) × Int)} (hM : (zcn r__Down r__Travel r__Springs r__Towns r__Delay_Lo r__Delay_Hi r__Floods watches).Ends r) (w : World) (H : St w w [] R) : Ret Tryz.prog 13 #[.agg #[v_r__Down, v_r__Travel, v_r__Springs, v_r__Towns, I r__Delay_Lo, I r__Delay_Hi, v_r__Floods], v_watches] w fun v w' => ∃ (y0 : List Int) (y1 : List Int) (y2 : Int) (u0 : Value) (u1 : Value), (y0, y1, y2) = r /\ v = .tuple #[u0, u1, I y2] /\ St w w' [cOwn (α := Int) 3 u0 y0, cOwn (α := Int) 3 u1 y1] R := by
 refine ret_of_W Tryz.func13 rfl rfl rfl ?_
 refine W.seq ?_
 refine W.region rfl ?_
 refine t_box (v := .agg #[v_r__Down, v_r__Travel, v_r__Springs, v_r__Towns, I r__Delay_Lo, I r__Delay_Hi, v_r__Floods]) (cs := [v_r__Down, v_r__Travel, v_r__Springs, v_r__Towns, I r__Delay_Lo, I r__Delay_Hi, v_r__Floods]) H rfl rfl ?_
 intro b_1 w1z H
 refine s_val (x_as (v := .slice none 0 0) rfl) ?_
 refine s_val (x_as (v := .slice none 0 0) rfl) ?_
 refine s_val (x_as (v := I 0) rfl) ?_
 refine s_nil ?_
 refine W.seq ?_
 refine W.region rfl ?_
 refine s_val (x_ld (p := .pointer (some ⟨b_1, 0, none⟩)) (v := .agg #[v_r__Down, v_r__Travel, v_r__Springs, v_r__Towns, I r__Delay_Lo, I r__Delay_Hi, v_r__Floods]) rfl (ldb_ag (ds := [v_r__Down, v_r__Travel, v_r__Springs, v_r__Towns, I r__Delay_Lo, I r__Delay_Hi, v_r__Floods]) Ag29 Sz29 (H.blk (k := 0) rfl) rfl rfl)) ?_
 refine s_val (x_mv (v := v_watches) rfl) ?_
 obtain ⟨r3z, hx2z, hM⟩ := M.e_bind hM
 refine s_call cf46 [.agg #[v_r__Down, v_r__Travel, v_r__Springs, v_r__Towns, I r__Delay_Lo, I r__Delay_Hi, v_r__Floods], v_watches] rfl (zcA r__Down r__Travel r__Springs r__Towns r__Delay_Lo r__Delay_Hi r__Floods watches (hC_r__Down.app _) hs_r__Down (hC_r__Travel.app _) hs_r__Travel (hC_r__Springs.app _) hs_r__Springs (hC_r__Towns.app _) hs_r__Towns (hC_r__Floods.app _) hs_r__Floods (hC_watches.app _) hs_watches hx2z _ (H.gt 1)) ?_
 rintro vq w4z (⟨r1, r2, hr5z, hvq, H2_, hf6z⟩ | ⟨r04, r05, r12, r22, nb0_2, nb1_3, Bs2_4, hr7z, hvq, H2_, hf8z⟩)
 ·subst hr5z
  subst vq
  try dsimp only at hM
  replace H := H.bk H2_
  clear H2_
  refine s_val (x_mv (v := .tuple #[.pointer none, .agg (encB r1).toArray, I r2]) rfl) ?_
  refine s_val (x_ext (vs := [.pointer none, .agg (encB r1).toArray, I r2]) (v := .pointer none) rfl rfl) ?_
  refine s_val (x_ext (vs := [.pointer none, .agg (encB r1).toArray, I r2]) (v := .agg (encB r1).toArray) rfl rfl) ?_
  refine s_val (x_ext (vs := [.pointer none, .agg (encB r1).toArray, I r2]) (v := I r2) rfl rfl) ?_
  refine t_alloc (cs := encB (List.replicate 12 false)) H Al96 rfl ?_
  intro b_5 w9z H
  have hl_b_5 : (List.replicate 12 false).length = 12 := by simp
  refine s_val (x_as (v := .pointer none) rfl) ?_
  refine t_stArrA (k := 0) (b := b_5) (l := List.replicate 12 false) (l' := r1) (L' := [cBlk b_5 (encB r1) 96, cBlk b_1 [v_r__Down, v_r__Travel, v_r__Springs, v_r__Towns, I r__Delay_Lo, I r__Delay_Hi, v_r__Floods] 29]) H rfl rfl rfl Sz96 hl_b_5 hf6z rfl ?_
  intro w10z H
  refine s_val (x_as (v := I r2) rfl) ?_
  refine s_nil ?_
  refine W.seq ?_
  refine W.seq ?_
  refine W.region rfl ?_
  refine s_val (x_mv (v := I r2) rfl) ?_
  refine s_val (x_cmp (kd := .i64) (a := r2) (b := 0) (r := r2 != 0) rfl rfl rfl) ?_
  refine s_nil ?_
  refine W.cond (r2 != 0) rfl (fun c11z => ?_) (fun c11z => ?_)
  ·replace hM := M.e_t hM c11z
   simp only [decide_eq_true_eq, decide_eq_false_iff_not, beq_iff_eq, bne_iff_ne, beq_eq_false_iff_ne, bne_eq_false_iff_eq, ne_eq, Decidable.not_not] at c11z
   refine W.seq ?_
   refine W.region rfl ?_
   refine s_val (x_mv (v := I r2) rfl) ?_
   refine s_val (x_as (v := .slice none 0 0) rfl) ?_
   refine s_val (x_as (v := .slice none 0 0) rfl) ?_
   refine s_val (x_as (v := I r2) rfl) ?_
   refine s_nil ?_
   replace H := H.pk []
   refine W.ret ?_
   have hr_ := M.e_pure hM
   replace H := H.nilOwn (α := Int) 3
   replace H := H.nilOwn (α := Int) 3
   exact ⟨_, resE_tmp3 rfl, ⟨([]), ([]), r2, (.slice none 0 0), (.slice none 0 0), hr_, rfl, (H.pk [1, 0])⟩⟩
  replace hM := M.e_f hM c11z
  exact (M.e_fail hM).elim
 subst hr7z
 subst vq
 try dsimp only at hM
 replace H := H.bk H2_
 clear H2_
 refine s_val (x_mv (v := .tuple #[.pointer (some ⟨nb0_2, 0, none⟩), .agg (encB r12).toArray, I r22]) rfl) ?_
 refine s_val (x_ext (vs := [.pointer (some ⟨nb0_2, 0, none⟩), .agg (encB r12).toArray, I r22]) (v := .pointer (some ⟨nb0_2, 0, none⟩)) rfl rfl) ?_
 refine s_val (x_ext (vs := [.pointer (some ⟨nb0_2, 0, none⟩), .agg (encB r12).toArray, I r22]) (v := .agg (encB r12).toArray) rfl rfl) ?_
 refine s_val (x_ext (vs := [.pointer (some ⟨nb0_2, 0, none⟩), .agg (encB r12).toArray, I r22]) (v := I r22) rfl rfl) ?_
 refine t_alloc (cs := encB (List.replicate 12 false)) H Al96 rfl ?_
 intro b_5 w12z H
 have hl_b_5 : (List.replicate 12 false).length = 12 := by simp
 refine s_val (x_as (v := .pointer (some ⟨nb0_2, 0, none⟩)) rfl) ?_
 refine t_stArrA (k := 0) (b := b_5) (l := List.replicate 12 false) (l' := r12) (L' := [cBlk b_5 (encB r12) 96, cBlk nb0_2 [v_r__Down, v_r__Travel, v_r__Springs, v_r__Towns, I r04, I r05, v_r__Floods, .map (some nb1_3)] 111, cMem encDm nb1_3 Bs2_4 (zaa r__Down r__Travel r__Springs r__Towns r04 r05 r__Floods), cBlk b_1 [v_r__Down, v_r__Travel, v_r__Springs, v_r__Towns, I r__Delay_Lo, I r__Delay_Hi, v_r__Floods] 29]) H rfl rfl rfl Sz96 hl_b_5 hf8z rfl ?_
 intro w13z H
 refine s_val (x_as (v := I r22) rfl) ?_
 refine s_nil ?_
 refine W.seq ?_
 refine W.seq ?_
 refine W.region rfl ?_
 refine s_val (x_mv (v := I r22) rfl) ?_
 refine s_val (x_cmp (kd := .i64) (a := r22) (b := 0) (r := r22 != 0) rfl rfl rfl) ?_
 refine s_nil ?_
 refine W.cond (r22 != 0) rfl (fun c14z => ?_) (fun c14z => ?_)
 ·replace hM := M.e_t hM c14z
  exact (M.e_fail hM).elim
 replace hM := M.e_f hM c14z
 simp only [decide_eq_true_eq, decide_eq_false_iff_not, beq_iff_eq, bne_iff_ne, beq_eq_false_iff_ne, bne_eq_false_iff_eq, ne_eq, Decidable.not_not] at c14z
 refine W.skip ?_
 refine W.seq ?_
 refine W.seq ?_
 refine W.region rfl ?_
 refine s_val (x_mv (v := v_watches) rfl) ?_
 have hl15z := (hs_watches).len_le
 refine s_val (x_lenS T22.und rfl hs_watches) ?_
 refine s_val (x_mv (v := I 0) rfl) ?_
 refine s_nil ?_
 refine W.block ?_
 replace H := H.nilOwn (α := Int) 3
 replace H := H.nilOwn (α := Int) 3
 obtain ⟨ex16z, hi17z, hk18z⟩ := M.e_bind hM
 obtain ⟨m0_, hi17z⟩ := M.e_iter hi17z
 refine W.loop (fun m σ W => ∃ (s2 : Nat) (l : List Int) (l2 : List Int) (v_l : Value) (v_l2 : Value) (ρ : Env), σ = upds ρ [(4, v_l), (5, v_l2), (7, .pointer (some ⟨nb0_2, 0, none⟩)), (8, .pointer (some ⟨b_5, 0, none⟩)), (26, v_watches), (27, I (watches.length : Int)), (28, I (s2 : Int))] /\ M.iterN (zch r__Down r__Travel r__Springs r__Towns r__Floods watches r04 r05 r12) m (s2, l, l2) = some ex16z /\ St w W [cOwn (α := Int) 3 v_l2 l2, cOwn (α := Int) 3 v_l l, cBlk b_5 (encB r12) 96, cBlk nb0_2 [v_r__Down, v_r__Travel, v_r__Springs, v_r__Towns, I r04, I r05, v_r__Floods, .map (some nb1_3)] 111, cMem encDm nb1_3 Bs2_4 (zaa r__Down r__Travel r__Springs r__Towns r04 r05 r__Floods), cBlk b_1 [v_r__Down, v_r__Travel, v_r__Springs, v_r__Towns, I r__Delay_Lo, I r__Delay_Hi, v_r__Floods] 29] R) ?_ ?_
 ·exact ⟨_, 0, [], [], (.slice none 0 0), (.slice none 0 0), _, upds_of _ _ ⟨rfl, rfl, rfl, rfl, rfl, rfl, rfl, trivial⟩, hi17z, H⟩
 rintro m21z σ w19z ⟨s2, l, l2, v_l, v_l2, ρ, rfl, hI20z, H⟩
 obtain ⟨m22z, lt23z, x24z, hM, hN25z⟩ := M.e_iterN hI20z
 simp only [zch] at hM
 clear hI20z
 refine W.seq ?_
 refine W.region rfl ?_
 refine s_val (x_cmp (kd := .i64) (a := (s2 : Int)) (b := (watches.length : Int)) (r := decide ((s2 : Int) < (watches.length : Int))) rfl rfl rfl) ?_
 refine s_nil ?_
 refine W.seq ?_
 refine W.cond (decide ((s2 : Int) < (watches.length : Int))) rfl (fun c26z => ?_) (fun c26z => ?_)
 ·replace hM := M.e_t hM c26z
  simp only [decide_eq_true_eq, decide_eq_false_iff_not, beq_iff_eq, bne_iff_ne, beq_eq_false_iff_ne, bne_eq_false_iff_eq, ne_eq, Decidable.not_not] at c26z
  refine W.skip ?_
  refine W.seq ?_
  refine W.block ?_
  refine W.seq ?_
  refine W.region rfl ?_
  obtain ⟨sd27z, hM⟩ := M.e_grd hM
  simp only [Bool.and_eq_true, decide_eq_true_eq] at sd27z
  refine s_val (x_ix (a := v_watches) (b := I (s2 : Int)) (v := vat v_watches 1 (Int.toNat (s2 : Int))) rfl rfl (Sl.ix (α := Int) T22.und T22.size hs_watches (by omega) (by omega))) ?_
  refine s_val (x_ld (p := vat v_watches 1 (Int.toNat (s2 : Int))) (v := I (watches.getD s2 0)) rfl (ld_sc Sc3 (At.mono (Int_at hs_watches (i := (s2 : Int)) (by omega) (by omega)) (hC_watches.at H)))) ?_
  refine t_alloc (cs := [I 0]) H Al3 rfl ?_
  intro b_6 w28z H
  refine t_sw 0 0 [I (watches.getD s2 0)] (I (watches.getD s2 0)) H rfl rfl Sz3 rfl rfl rfl rfl ?_
  intro w29z H
  refine s_nil ?_
  refine W.seq ?_
  refine W.region rfl ?_
  refine s_val (x_as (v := I 2001) rfl) ?_
  refine s_val (x_as (v := I (-1)) rfl) ?_
  refine s_nil ?_
  refine W.seq ?_
  refine W.seq ?_
  refine W.region rfl ?_
  refine s_val (x_mv (v := .pointer (some ⟨nb0_2, 0, none⟩)) rfl) ?_
  refine s_val (x_ld (p := .pointer (some ⟨b_5, 0, none⟩)) (v := .agg (encB r12).toArray) rfl (ldArrA Ag96 Sz96 hf8z (H.blk (k := 3) rfl))) ?_
  refine s_val (x_mf (fs := []) (cs := [.pointer (some ⟨b_6, 0, none⟩)]) rfl rfl) ?_
  refine s_val (x_bld (ps := [(0, .func (.func 52) #[] #[.pointer (some ⟨b_6, 0, none⟩)])]) (zs := [.nilFunc]) (L' := [.func (.func 52) #[] #[.pointer (some ⟨b_6, 0, none⟩)]]) rfl Tryz.underlying108 Al108 rfl (Bd108 Tryz.underlying108) (.cons (cs := [.func (.func 52) #[] #[.pointer (some ⟨b_6, 0, none⟩)]]) rfl rfl rfl rfl rfl <| .nil)) ?_
  obtain ⟨r31z, hx30z, hM⟩ := M.e_bind hM
  refine s_call cf51 [.pointer (some ⟨nb0_2, 0, none⟩), .agg (encB r12).toArray, .agg #[.func (.func 52) #[] #[.pointer (some ⟨b_6, 0, none⟩)]]] rfl (zdf r__Down r__Travel r__Springs r__Towns r04 r05 r__Floods r12 (watches.getD s2 0) (hC_r__Down.app _) hs_r__Down (hC_r__Travel.app _) hs_r__Travel (hC_r__Springs.app _) hs_r__Springs (hC_r__Towns.app _) hs_r__Towns (hC_r__Floods.app _) hs_r__Floods (Has.here (k := 4) rfl) hf8z (Has.here (k := 0) rfl) hx30z _ (H.gt 7)) ?_
  rintro vq w32z ⟨r3, u0_7, hr33z, hvq, H2_⟩
  subst hr33z
  subst vq
  try dsimp only at hM
  replace H := H.bk H2_
  clear H2_
  have hl34z := ((ownSl (H.get (k := 0) rfl))).len_le
  refine s_val (x_lenS T22.und rfl (ownSl (H.get (k := 0) rfl))) ?_
  refine s_val (x_mv (v := I 0) rfl) ?_
  refine s_nil ?_
  refine W.block ?_
  obtain ⟨ex35z, hi36z, hk37z⟩ := M.e_bind hM
  obtain ⟨m0_, hi36z⟩ := M.e_iter hi36z
  refine W.loop (fun m σ W => ∃ (least : Int) (flood : Int) (s : Nat) (ρ : Env), σ = upds ρ [(4, v_l), (5, v_l2), (7, .pointer (some ⟨nb0_2, 0, none⟩)), (8, .pointer (some ⟨b_5, 0, none⟩)), (11, I least), (12, I flood), (26, v_watches), (27, I (watches.length : Int)), (28, I (s2 : Int)), (36, u0_7), (37, I (r3.length : Int)), (38, I (s : Int))] /\ M.iterN (zb2 r__Down r__Travel r__Springs r__Towns r__Floods r04 r05 r12 r3) m (least, flood, s) = some ex35z /\ St w W [cOwn (α := Int) 3 u0_7 r3, cBlk b_6 [I (watches.getD s2 0)] 3, cOwn (α := Int) 3 v_l2 l2, cOwn (α := Int) 3 v_l l, cBlk b_5 (encB r12) 96, cBlk nb0_2 [v_r__Down, v_r__Travel, v_r__Springs, v_r__Towns, I r04, I r05, v_r__Floods, .map (some nb1_3)] 111, cMem encDm nb1_3 Bs2_4 (zaa r__Down r__Travel r__Springs r__Towns r04 r05 r__Floods), cBlk b_1 [v_r__Down, v_r__Travel, v_r__Springs, v_r__Towns, I r__Delay_Lo, I r__Delay_Hi, v_r__Floods] 29] R) ?_ ?_
  ·exact ⟨_, 2001, -1, 0, _, upds_of _ _ ⟨rfl, rfl, rfl, rfl, rfl, rfl, rfl, rfl, rfl, rfl, rfl, rfl, trivial⟩, hi36z, H⟩
  rintro m40z σ w38z ⟨least, flood, s, ρ, rfl, hI39z, H⟩
  obtain ⟨m41z, lt42z, x43z, hM, hN44z⟩ := M.e_iterN hI39z
  simp only [zb2] at hM
  clear hI39z
  refine W.seq ?_
  refine W.region rfl ?_
  refine s_val (x_cmp (kd := .i64) (a := (s : Int)) (b := (r3.length : Int)) (r := decide ((s : Int) < (r3.length : Int))) rfl rfl rfl) ?_
  refine s_nil ?_
  refine W.seq ?_
  refine W.cond (decide ((s : Int) < (r3.length : Int))) rfl (fun c45z => ?_) (fun c45z => ?_)
  ·replace hM := M.e_t hM c45z
   simp only [decide_eq_true_eq, decide_eq_false_iff_not, beq_iff_eq, bne_iff_ne, beq_eq_false_iff_ne, bne_eq_false_iff_eq, ne_eq, Decidable.not_not] at c45z
   refine W.skip ?_
   refine W.seq ?_
   refine W.block ?_
   refine W.seq ?_
   refine W.region rfl ?_
   obtain ⟨sd46z, hM⟩ := M.e_grd hM
   simp only [Bool.and_eq_true, decide_eq_true_eq] at sd46z
   refine s_val (x_ix (a := u0_7) (b := I (s : Int)) (v := vat u0_7 1 (Int.toNat (s : Int))) rfl rfl (Sl.ix (α := Int) T22.und T22.size (ownSl (H.get (k := 0) rfl)) (by omega) (by omega))) ?_
   refine s_val (x_ld (p := vat u0_7 1 (Int.toNat (s : Int))) (v := I (r3.getD s 0)) rfl (ld_sc Sc3 (At.mono (Int_at (ownSl (H.get (k := 0) rfl)) (i := (s : Int)) (by omega) (by omega)) (ownLe _ (H.get (k := 0) rfl))))) ?_
   refine s_val (x_as (v := I (r3.getD s 0)) rfl) ?_
   refine s_nil ?_
   refine W.seq ?_
   refine W.drawT (fun W => St w W [cOwn (α := Int) 3 u0_7 r3, cBlk b_6 [I (watches.getD s2 0)] 3, cOwn (α := Int) 3 v_l2 l2, cOwn (α := Int) 3 v_l l, cBlk b_5 (encB r12) 96, cBlk nb0_2 [v_r__Down, v_r__Travel, v_r__Springs, v_r__Towns, I r04, I r05, v_r__Floods, .map (some nb1_3)] 111, cMem encDm nb1_3 Bs2_4 (zaa r__Down r__Travel r__Springs r__Towns r04 r05 r__Floods), cBlk b_1 [v_r__Down, v_r__Travel, v_r__Springs, v_r__Towns, I r__Delay_Lo, I r__Delay_Hi, v_r__Floods] 29] R) (.q 0 (.q 1 (.q 2 (.q 3 (.q 4 (.q 5 (.q 6 (.q 7 (.q 8 (.q 9 (.l2 10 (.l 11 (.l 12 .nil)) 11 (.l 10 (.l 12 .nil))))))))))))) mixed (by decide +kernel) rfl ?_
   intro w47z hx_
   replace H := H.ext hx_
   clear hx_
   refine ⟨(H.pk [0, 1, 2, 3, 4, 5, 6, 7]), ?_⟩
   refine t_q rfl (fun w' H => x_mv (v := .pointer (some ⟨nb0_2, 0, none⟩)) rfl) ?_
   refine t_q rfl (fun w' H => x_mv (v := .pointer (some ⟨nb0_2, 0, none⟩)) rfl) ?_
   refine t_q rfl (fun w' H => x_nc (a := ⟨nb0_2, 0, none⟩) rfl) ?_
   refine t_q rfl (fun w' H => x_fa (a := .pointer (some ⟨nb0_2, 0, none⟩)) (v := .pointer (some ⟨nb0_2, 0, none⟩)) rfl (fa_blk (o := 0) Fd111_0 Sz29)) ?_
   refine t_q rfl (fun w' H => x_fa (a := .pointer (some ⟨nb0_2, 0, none⟩)) (v := .pointer (some ⟨nb0_2, 6, none⟩)) rfl (fa_blk (o := 0) Fd29_5 Sz27)) ?_
   refine t_q rfl (fun w' H => x_ld (p := .pointer (some ⟨nb0_2, 6, none⟩)) (v := v_r__Floods) rfl (ldb_sc Sc27 (H.blk (k := 5) rfl) rfl)) ?_
   refine t_q rfl (fun w' H => x_mv (v := I (r3.getD s 0)) rfl) ?_
   obtain ⟨sd48z, hM⟩ := M.e_grd hM
   simp only [Bool.and_eq_true, decide_eq_true_eq] at sd48z
   refine t_q rfl (fun w' H => x_ix (a := v_r__Floods) (b := I (r3.getD s 0)) (v := vat v_r__Floods 2 (Int.toNat (r3.getD s 0))) rfl rfl (Sl.ix (α := Flood) T27.und T27.size hs_r__Floods (by omega) (by omega))) ?_
   obtain ⟨u49z, ha51z, hs50z⟩ := Flood_atA hs_r__Floods (i := r3.getD s 0) (by omega) (by omega)
   replace hs50z : Sl _ u49z (r__Floods.getD (Int.toNat (r3.getD s 0)) default).stages := hs50z
   have hl_hs50z := hs50z.len_le
   refine t_q rfl (fun w' H => x_ld (p := vat v_r__Floods 2 (Int.toNat (r3.getD s 0))) (v := .agg #[I ((r__Floods.getD (Int.toNat (r3.getD s 0)) default).spring), u49z]) rfl (ld_ag Ag85 Sz85 (At.mono ha51z (hC_r__Floods.at H)))) ?_
   refine t_q rfl (fun w' H => x_ld (p := .pointer (some ⟨b_5, 0, none⟩)) (v := .agg (encB r12).toArray) rfl (ldArrA Ag96 Sz96 hf8z (H.blk (k := 4) rfl))) ?_
   refine t_l2 rfl rfl ?_ ?_
   ·skip
    obtain ⟨r64z, hx63z, hM⟩ := M.e_bind hM
    refine s_call cf48 [.pointer (some ⟨nb0_2, 0, none⟩), .agg #[I ((r__Floods.getD (Int.toNat (r3.getD s 0)) default).spring), u49z], .agg (encB r12).toArray] rfl (zbl r__Down r__Travel r__Springs r__Towns r04 r05 r__Floods (r__Floods.getD (Int.toNat (r3.getD s 0)) default) r12 (hC_r__Down.app _) hs_r__Down (hC_r__Travel.app _) hs_r__Travel (hC_r__Springs.app _) hs_r__Springs (hC_r__Towns.app _) hs_r__Towns (hC_r__Floods.app _) hs_r__Floods (Has.here (k := 5) rfl) (hC_r__Floods.app _) hs50z hf8z hx63z _ (H.gt 8)) ?_
    rintro vq w65z ⟨r0, r13, r23, hr66z, hvq, H2_⟩
    subst hr66z
    subst vq
    try dsimp only at hM
    replace H := H.bk H2_
    clear H2_
    refine s_nil ⟨(H.pk [0, 1, 2, 3, 4, 5, 6, 7]), ?_⟩
    refine t_l rfl ?_
    refine t_alloc (cs := [I 0, I 0, B false]) H Al101 rfl ?_
    intro b_8 w67z H
    refine s_nil ⟨(H.pk [1, 2, 3, 4, 5, 6, 7, 8]), ?_⟩
    refine t_l rfl ?_
    refine t_sw 0 0 [I r0, I r13, B r23] (.agg #[I r0, I r13, B r23]) H rfl rfl Sz101 rfl rfl rfl rfl ?_
    intro w68z H
    refine s_nil ⟨(H.pk [1, 2, 3, 4, 5, 6, 7, 8]), ?_⟩
    refine t_nil ?_
    refine W.seq ?_
    refine W.region rfl ?_
    refine s_val (x_fa (a := .pointer (some ⟨b_8, 0, none⟩)) (v := .pointer (some ⟨b_8, 1, none⟩)) rfl (fa_blk (o := 0) Fd101_1 Sz3)) ?_
    refine s_val (x_ld (p := .pointer (some ⟨b_8, 1, none⟩)) (v := I r13) rfl (ldb_sc Sc3 (H.blk (k := 0) rfl) rfl)) ?_
    refine s_val (x_mv (v := I least) rfl) ?_
    refine s_val (x_cmp (kd := .i64) (a := r13) (b := least) (r := decide (r13 < least)) rfl rfl rfl) ?_
    refine s_nil ?_
    refine W.cond (decide (r13 < least)) rfl (fun c69z => ?_) (fun c69z => ?_)
    ·replace hM := M.e_t hM c69z
     simp only [decide_eq_true_eq, decide_eq_false_iff_not, beq_iff_eq, bne_iff_ne, beq_eq_false_iff_ne, bne_eq_false_iff_eq, ne_eq, Decidable.not_not] at c69z
     refine W.region rfl ?_
     refine s_val (x_fa (a := .pointer (some ⟨b_8, 0, none⟩)) (v := .pointer (some ⟨b_8, 1, none⟩)) rfl (fa_blk (o := 0) Fd101_1 Sz3)) ?_
     refine s_val (x_ld (p := .pointer (some ⟨b_8, 1, none⟩)) (v := I r13) rfl (ldb_sc Sc3 (H.blk (k := 0) rfl) rfl)) ?_
     refine s_val (x_mv (v := I (r3.getD s 0)) rfl) ?_
     refine s_val (x_as (v := I r13) rfl) ?_
     refine s_val (x_as (v := I (r3.getD s 0)) rfl) ?_
     refine s_nil ?_
     refine W.region rfl ?_
     refine s_val (x_ari (a := (s : Int)) (b := 1) (r := (s : Int) + 1) rfl rfl rfl (by omega)) ?_
     refine s_val (x_mv (v := I ((s : Int) + 1)) rfl) ?_
     refine s_nil ?_
     exact ⟨m41z, lt42z, r13, r3.getD s 0, s + 1, _, upds_of _ _ ⟨rfl, rfl, rfl, rfl, rfl, rfl, rfl, rfl, rfl, rfl, rfl, rfl, trivial⟩, M.e_inl hM hN44z, (H.pk [1, 2, 3, 4, 5, 6, 7, 8])⟩
    replace hM := M.e_f hM c69z
    simp only [decide_eq_true_eq, decide_eq_false_iff_not, beq_iff_eq, bne_iff_ne, beq_eq_false_iff_ne, bne_eq_false_iff_eq, ne_eq, Decidable.not_not] at c69z
    refine W.skip ?_
    refine W.region rfl ?_
    refine s_val (x_ari (a := (s : Int)) (b := 1) (r := (s : Int) + 1) rfl rfl rfl (by omega)) ?_
    refine s_val (x_mv (v := I ((s : Int) + 1)) rfl) ?_
    refine s_nil ?_
    exact ⟨m41z, lt42z, least, flood, s + 1, _, upds_of _ _ ⟨rfl, rfl, rfl, rfl, rfl, rfl, rfl, rfl, rfl, rfl, rfl, rfl, trivial⟩, M.e_inl hM hN44z, (H.pk [1, 2, 3, 4, 5, 6, 7, 8])⟩
   skip
   refine t_alloc (cs := [I 0, I 0, B false]) H Al101 rfl ?_
   intro b_8 w70z H
   refine s_nil ⟨(H.pk [1, 2, 3, 4, 5, 6, 7, 8]), ?_⟩
   refine t_l rfl ?_
   obtain ⟨r72z, hx71z, hM⟩ := M.e_bind hM
   refine s_call cf48 [.pointer (some ⟨nb0_2, 0, none⟩), .agg #[I ((r__Floods.getD (Int.toNat (r3.getD s 0)) default).spring), u49z], .agg (encB r12).toArray] rfl (zbl r__Down r__Travel r__Springs r__Towns r04 r05 r__Floods (r__Floods.getD (Int.toNat (r3.getD s 0)) default) r12 (hC_r__Down.app _) hs_r__Down (hC_r__Travel.app _) hs_r__Travel (hC_r__Springs.app _) hs_r__Springs (hC_r__Towns.app _) hs_r__Towns (hC_r__Floods.app _) hs_r__Floods (Has.here (k := 6) rfl) (hC_r__Floods.app _) hs50z hf8z hx71z _ (H.gt 9)) ?_
   rintro vq w73z ⟨r0, r13, r23, hr74z, hvq, H2_⟩
   subst hr74z
   subst vq
   try dsimp only at hM
   replace H := H.bk H2_
   clear H2_
   refine s_nil ⟨(H.pk [1, 2, 3, 4, 5, 6, 7, 8]), ?_⟩
   refine t_l rfl ?_
   refine t_sw 0 0 [I r0, I r13, B r23] (.agg #[I r0, I r13, B r23]) H rfl rfl Sz101 rfl rfl rfl rfl ?_
   intro w75z H
   refine s_nil ⟨(H.pk [1, 2, 3, 4, 5, 6, 7, 8]), ?_⟩
   refine t_nil ?_
   refine W.seq ?_
   refine W.region rfl ?_
   refine s_val (x_fa (a := .pointer (some ⟨b_8, 0, none⟩)) (v := .pointer (some ⟨b_8, 1, none⟩)) rfl (fa_blk (o := 0) Fd101_1 Sz3)) ?_
   refine s_val (x_ld (p := .pointer (some ⟨b_8, 1, none⟩)) (v := I r13) rfl (ldb_sc Sc3 (H.blk (k := 0) rfl) rfl)) ?_
   refine s_val (x_mv (v := I least) rfl) ?_
   refine s_val (x_cmp (kd := .i64) (a := r13) (b := least) (r := decide (r13 < least)) rfl rfl rfl) ?_
   refine s_nil ?_
   refine W.cond (decide (r13 < least)) rfl (fun c76z => ?_) (fun c76z => ?_)
   ·replace hM := M.e_t hM c76z
    simp only [decide_eq_true_eq, decide_eq_false_iff_not, beq_iff_eq, bne_iff_ne, beq_eq_false_iff_ne, bne_eq_false_iff_eq, ne_eq, Decidable.not_not] at c76z
    refine W.region rfl ?_
    refine s_val (x_fa (a := .pointer (some ⟨b_8, 0, none⟩)) (v := .pointer (some ⟨b_8, 1, none⟩)) rfl (fa_blk (o := 0) Fd101_1 Sz3)) ?_
    refine s_val (x_ld (p := .pointer (some ⟨b_8, 1, none⟩)) (v := I r13) rfl (ldb_sc Sc3 (H.blk (k := 0) rfl) rfl)) ?_
    refine s_val (x_mv (v := I (r3.getD s 0)) rfl) ?_
    refine s_val (x_as (v := I r13) rfl) ?_
    refine s_val (x_as (v := I (r3.getD s 0)) rfl) ?_
    refine s_nil ?_
    refine W.region rfl ?_
    refine s_val (x_ari (a := (s : Int)) (b := 1) (r := (s : Int) + 1) rfl rfl rfl (by omega)) ?_
    refine s_val (x_mv (v := I ((s : Int) + 1)) rfl) ?_
    refine s_nil ?_
    exact ⟨m41z, lt42z, r13, r3.getD s 0, s + 1, _, upds_of _ _ ⟨rfl, rfl, rfl, rfl, rfl, rfl, rfl, rfl, rfl, rfl, rfl, rfl, trivial⟩, M.e_inl hM hN44z, (H.pk [1, 2, 3, 4, 5, 6, 7, 8])⟩
   replace hM := M.e_f hM c76z
   simp only [decide_eq_true_eq, decide_eq_false_iff_not, beq_iff_eq, bne_iff_ne, beq_eq_false_iff_ne, bne_eq_false_iff_eq, ne_eq, Decidable.not_not] at c76z
   refine W.skip ?_
   refine W.region rfl ?_
   refine s_val (x_ari (a := (s : Int)) (b := 1) (r := (s : Int) + 1) rfl rfl rfl (by omega)) ?_
   refine s_val (x_mv (v := I ((s : Int) + 1)) rfl) ?_
   refine s_nil ?_
   exact ⟨m41z, lt42z, least, flood, s + 1, _, upds_of _ _ ⟨rfl, rfl, rfl, rfl, rfl, rfl, rfl, rfl, rfl, rfl, rfl, rfl, trivial⟩, M.e_inl hM hN44z, (H.pk [1, 2, 3, 4, 5, 6, 7, 8])⟩
  replace hM := M.e_f hM c45z
  simp only [decide_eq_true_eq, decide_eq_false_iff_not, beq_iff_eq, bne_iff_ne, beq_eq_false_iff_ne, bne_eq_false_iff_eq, ne_eq, Decidable.not_not] at c45z
  refine W.exit ?_
  have hX77z := M.e_inr hM hN44z
  subst hX77z
  replace hM := hk37z
  try dsimp only at hM
  replace H := H.pk [2, 3, 4, 5, 6, 7]
  refine W.region rfl ?_
  refine s_val (x_mv (v := v_l) rfl) ?_
  refine s_val (x_mv (v := I least) rfl) ?_
  refine t_bs (α := Int) T22 [I least] [(least : Int)] H rfl (.cons rfl (Flat.rep_enc _ (least : Int)) <| .nil) rfl rfl rfl ?_
  intro v78z w79z H
  obtain ⟨sd80z, hM⟩ := M.e_grd hM
  simp only [Bool.and_eq_true, decide_eq_true_eq] at sd80z
  refine t_app (α := Int) (k := 2) (l := l) (l2 := [(least : Int)]) (l' := l ++ ([(least : Int)])) (vy := v78z) T22 rfl H rfl rfl rfl (ownSl (H.get (k := 0) rfl)) (ownLe _ (H.get (k := 0) rfl)) (rfl) (by first | omega | (simp only [List.length_nil] at *; omega)) ?_
  intro v81z w82z H
  replace H := H.nf
  refine s_val (x_mv (v := v_l2) rfl) ?_
  refine s_val (x_mv (v := I flood) rfl) ?_
  refine t_bs (α := Int) T22 [I flood] [(flood : Int)] H rfl (.cons rfl (Flat.rep_enc _ (flood : Int)) <| .nil) rfl rfl rfl ?_
  intro v83z w84z H
  obtain ⟨sd85z, hM⟩ := M.e_grd hM
  simp only [Bool.and_eq_true, decide_eq_true_eq] at sd85z
  refine t_app (α := Int) (k := 2) (l := l2) (l2 := [(flood : Int)]) (l' := l2 ++ ([(flood : Int)])) (vy := v83z) T22 rfl H rfl rfl rfl (ownSl (H.get (k := 0) rfl)) (ownLe _ (H.get (k := 0) rfl)) (rfl) (by first | omega | (simp only [List.length_nil] at *; omega)) ?_
  intro v86z w87z H
  replace H := H.nf
  refine s_val (x_as (v := v81z) rfl) ?_
  refine s_val (x_as (v := v86z) rfl) ?_
  refine s_nil ?_
  replace H := H.pk [2, 3, 4, 5, 6, 7]
  refine W.region rfl ?_
  refine s_val (x_ari (a := (s2 : Int)) (b := 1) (r := (s2 : Int) + 1) rfl rfl rfl (by omega)) ?_
  refine s_val (x_mv (v := I ((s2 : Int) + 1)) rfl) ?_
  refine s_nil ?_
  exact ⟨m22z, lt23z, s2 + 1, l ++ ([(least : Int)]), l2 ++ ([(flood : Int)]), v81z, v86z, _, upds_of _ _ ⟨rfl, rfl, rfl, rfl, rfl, rfl, rfl, trivial⟩, M.e_inl hM hN25z, H⟩
 replace hM := M.e_f hM c26z
 simp only [decide_eq_true_eq, decide_eq_false_iff_not, beq_iff_eq, bne_iff_ne, beq_eq_false_iff_ne, bne_eq_false_iff_eq, ne_eq, Decidable.not_not] at c26z
 refine W.exit ?_
 have hX88z := M.e_inr hM hN25z
 subst hX88z
 replace hM := hk18z
 try dsimp only at hM
 replace H := H.pk [0, 1]
 refine W.seq ?_
 refine W.region rfl ?_
 refine s_val (x_mv (v := v_l) rfl) ?_
 refine s_val (x_mv (v := v_l2) rfl) ?_
 refine s_val (x_as (v := v_l) rfl) ?_
 refine s_val (x_as (v := v_l2) rfl) ?_
 refine s_val (x_as (v := I 0) rfl) ?_
 refine s_nil ?_
 refine W.ret ?_
 have hr_ := M.e_pure hM
 exact ⟨_, resE_tmp3 rfl, ⟨l, l2, 0, v_l, v_l2, hr_, rfl, (H.pk [1, 0])⟩⟩

def zcj (n : Int) : M Bool :=
  M.bind (zac n 0 2001) fun r2 =>
  M.pure r2
theorem zdt {R : List Chunk}  (n : Int)  {r : Bool} (hM : (zcj n).Ends r) (w : World) (H : St w w [] R) : Ret Tryz.prog 54 #[I n] w fun v w' => ∃ (y0 : Bool), y0 = r /\ v = B y0 /\ St w w' [] R := by
 refine ret_of_W Tryz.func54 rfl rfl rfl ?_
 refine W.seq ?_
 refine W.region rfl ?_
 refine s_val (x_as (v := B false) rfl) ?_
 refine s_nil ?_
 refine W.seq ?_
 refine W.region rfl ?_
 refine s_val (x_mv (v := I n) rfl) ?_
 obtain ⟨r2z, hx1z, hM⟩ := M.e_bind hM
 refine s_call cf47 [I n, I 0, I 2001] rfl (zaj n 0 2001 hx1z _ (H.gt 0)) ?_
 rintro vq w3z ⟨r2, hr4z, hvq, H2_⟩
 subst hr4z
 subst vq
 try dsimp only at hM
 replace H := H.bk H2_
 clear H2_
 refine s_val (x_as (v := B r2) rfl) ?_
 refine s_nil ?_
 refine W.ret ?_
 have hr_ := M.e_pure hM
 exact ⟨_, resE_tmp rfl, ⟨r2, hr_, rfl, H⟩⟩

def zca (x : Rpt) (k02 : List Int) (k12 : List Int) : M Bool :=
  M.bind (zbk k02 x.watch) fun r2 =>
  M.grd ((!(decide (0 <= r2)) || (decide ((0 : Int) <= r2) && decide (r2 < (k12.length : Int))))) <|
  M.pure ((decide (0 <= r2)) && (decide ((k12.getD (Int.toNat r2) 0) <= x.stage)))
theorem zcF {R : List Chunk} {b_k0 : Nat} {C_k02 : Cells} {v_k02 : Value} {b_k1 : Nat} {C_k12 : Cells} {v_k12 : Value} (x : Rpt) (k02 : List Int) (k12 : List Int) (hC_k02 : Reads R C_k02) (hs_k02 : Sl C_k02 v_k02 k02) (h_b_k0 : Has R (cBlk b_k0 [v_k02] 22)) (hC_k12 : Reads R C_k12) (hs_k12 : Sl C_k12 v_k12 k12) (h_b_k1 : Has R (cBlk b_k1 [v_k12] 22)) {r : Bool} (hM : (zca x k02 k12).Ends r) (w : World) (H : St w w [] R) : Ret Tryz.prog 55 #[.agg #[I x.watch, I x.stage, B x.danger], .pointer (some ⟨b_k0, 0, none⟩), .pointer (some ⟨b_k1, 0, none⟩)] w fun v w' => ∃ (y0 : Bool), y0 = r /\ v = B y0 /\ St w w' [] R := by
 refine ret_of_W Tryz.func55 rfl rfl rfl ?_
 refine W.seq ?_
 refine W.region rfl ?_
 refine t_box (v := .agg #[I x.watch, I x.stage, B x.danger]) (cs := [I x.watch, I x.stage, B x.danger]) H rfl rfl ?_
 intro b_1 w1z H
 refine s_val (x_as (v := B false) rfl) ?_
 refine s_nil ?_
 refine W.seq ?_
 refine W.region rfl ?_
 refine s_val (x_ld (p := .pointer (some ⟨b_k0, 0, none⟩)) (v := v_k02) rfl (ldb_sc Sc22 (h_b_k0.blk H) rfl)) ?_
 refine s_val (x_fa (a := .pointer (some ⟨b_1, 0, none⟩)) (v := .pointer (some ⟨b_1, 0, none⟩)) rfl (fa_blk (o := 0) Fd101_0 Sz3)) ?_
 refine s_val (x_ld (p := .pointer (some ⟨b_1, 0, none⟩)) (v := I x.watch) rfl (ldb_sc Sc3 (H.blk (k := 0) rfl) rfl)) ?_
 obtain ⟨r3z, hx2z, hM⟩ := M.e_bind hM
 refine s_call cf56 [v_k02, I x.watch] rfl (zcW k02 x.watch (hC_k02.app _) hs_k02 hx2z _ (H.gt 1)) ?_
 rintro vq w4z ⟨r2, hr5z, hvq, H2_⟩
 subst hr5z
 subst vq
 try dsimp only at hM
 replace H := H.bk H2_
 clear H2_
 refine s_val (x_as (v := I r2) rfl) ?_
 refine s_nil ?_
 refine W.seq ?_
 refine W.draw (fun W => St w W [cBlk b_1 [I x.watch, I x.stage, B x.danger] 101] R) [(0, true), (1, true), (2, true), (3, true), (4, true), (5, true), (6, true), (7, true), (8, true), (9, true), (10, true), (11, true)] mixed (by decide +kernel) rfl ?_
 intro w6z hx_
 replace H := H.ext hx_
 clear hx_
 refine ⟨(H.pk [0]), ?_⟩
 refine d_q rfl (fun w' H => x_mv (v := I r2) rfl) ?_
 refine d_q rfl (fun w' H => x_cmp (kd := .i64) (a := r2) (b := 0) (r := decide (0 <= r2)) rfl rfl rfl) ?_
 refine d_q rfl (fun w' H => x_mv (v := B (decide (0 <= r2))) rfl) ?_
 refine d_qg (decide (0 <= r2)) rfl (gy_t rfl) (fun hg => (fun w' H => x_fa (a := .pointer (some ⟨b_1, 0, none⟩)) (v := .pointer (some ⟨b_1, 1, none⟩)) rfl (fa_blk (o := 0) Fd101_1 Sz3))) ?_
 refine d_qg (decide (0 <= r2)) rfl (gy_t rfl) (fun hg => (fun w' H => x_ld (p := .pointer (some ⟨b_1, 1, none⟩)) (v := I x.stage) (gd_of (c := decide (0 <= r2)) hg (.pointer (some ⟨b_1, 1, none⟩))) (ldb_sc Sc3 (H.blk (k := 0) rfl) rfl))) ?_
 refine d_qg (decide (0 <= r2)) rfl (gy_t rfl) (fun hg => (fun w' H => x_ld (p := .pointer (some ⟨b_k1, 0, none⟩)) (v := v_k12) rfl (ldb_sc Sc22 (h_b_k1.blk H) rfl))) ?_
 refine d_qg (decide (0 <= r2)) rfl (gy_t rfl) (fun hg => (fun w' H => x_mv (v := I r2) rfl)) ?_
 obtain ⟨sd7z, hM⟩ := M.e_grd hM
 replace sd7z := M.imp_of sd7z
 simp only [Bool.and_eq_true, decide_eq_true_eq] at sd7z
 refine d_qg (decide (0 <= r2)) rfl (gy_t rfl) (fun hg => (fun w' H => x_ix (a := v_k12) (b := I r2) (v := vat v_k12 1 (Int.toNat r2)) (gd_of (c := decide (0 <= r2)) hg (v_k12)) (gd_of (c := decide (0 <= r2)) hg (I r2)) (Sl.ix (α := Int) T22.und T22.size hs_k12 (by have h1_ := sd7z.resolve_left (by rw [hg]; decide); first | exact h1_ | exact h1_.1 | exact h1_.2 | omega | (have hx_ := hg; simp at hx_; omega)) (by have h1_ := sd7z.resolve_left (by rw [hg]; decide); first | exact h1_ | exact h1_.1 | exact h1_.2 | omega | (have hx_ := hg; simp at hx_; omega))))) ?_
 refine d_qg (decide (0 <= r2)) rfl (gy_t rfl) (fun hg => (fun w' H => x_ld (p := vat v_k12 1 (Int.toNat r2)) (v := I (k12.getD (Int.toNat r2) 0)) (gd_of (c := decide (0 <= r2)) hg (vat v_k12 1 (Int.toNat r2))) (ld_sc Sc3 (At.mono (Int_at hs_k12 (i := r2) (by have h1_ := sd7z.resolve_left (by rw [hg]; decide); first | exact h1_ | exact h1_.1 | exact h1_.2 | omega | (have hx_ := hg; simp at hx_; omega)) (by have h1_ := sd7z.resolve_left (by rw [hg]; decide); first | exact h1_ | exact h1_.1 | exact h1_.2 | omega | (have hx_ := hg; simp at hx_; omega))) (hC_k12.at H))))) ?_
 refine d_qg (decide (0 <= r2)) rfl (gy_t rfl) (fun hg => (fun w' H => x_cmp (kd := .i64) (a := x.stage) (b := k12.getD (Int.toNat r2) 0) (r := decide ((k12.getD (Int.toNat r2) 0) <= x.stage)) (gd_of (c := decide (0 <= r2)) hg (I x.stage)) (gd_of (c := decide (0 <= r2)) hg (I (k12.getD (Int.toNat r2) 0))) rfl)) ?_
 refine d_q rfl (fun w' H => x_pand (b := decide (0 <= r2)) (r := decide ((k12.getD (Int.toNat r2) 0) <= x.stage)) rfl (fun hb => gd_of (c := decide (0 <= r2)) (by first | exact hb | (rw [hb]; rfl) | simp_all) (B (decide ((k12.getD (Int.toNat r2) 0) <= x.stage)))) rfl) ?_
 refine d_q rfl (fun w' H => x_as (v := B ((decide (0 <= r2)) && (decide ((k12.getD (Int.toNat r2) 0) <= x.stage)))) rfl) ?_
 refine d_nil ?_
 refine W.ret ?_
 have hr_ := M.e_pure hM
 exact ⟨_, resE_tmp rfl, ⟨((decide (0 <= r2)) && (decide ((k12.getD (Int.toNat r2) 0) <= x.stage))), hr_, rfl, (H.pk [])⟩⟩

def zcD (x : Rpt) (k0202 : List Int) (k0212 : List Int) : M Bool :=
  M.bind (M.opt x.danger (zca x k0202 k0212) false) fun r2 =>
  M.pure (x.danger && (!r2))
theorem zdE {R : List Chunk} {b_k0 : Nat} {b_k020 : Nat} {C_k0202 : Cells} {v_k0202 : Value} {b_k021 : Nat} {C_k0212 : Cells} {v_k0212 : Value} (x : Rpt) (k0202 : List Int) (k0212 : List Int) (hC_k0202 : Reads R C_k0202) (hs_k0202 : Sl C_k0202 v_k0202 k0202) (h_b_k020 : Has R (cBlk b_k020 [v_k0202] 22)) (hC_k0212 : Reads R C_k0212) (hs_k0212 : Sl C_k0212 v_k0212 k0212) (h_b_k021 : Has R (cBlk b_k021 [v_k0212] 22)) (h_b_k0 : Has R (cBlk b_k0 [.func (.func 55) #[] #[.pointer (some ⟨b_k020, 0, none⟩), .pointer (some ⟨b_k021, 0, none⟩)]] 106)) {r : Bool} (hM : (zcD x k0202 k0212).Ends r) (w : World) (H : St w w [] R) : Ret Tryz.prog 57 #[.agg #[I x.watch, I x.stage, B x.danger], .pointer (some ⟨b_k0, 0, none⟩)] w fun v w' => ∃ (y0 : Bool), y0 = r /\ v = B y0 /\ St w w' [] R := by
 refine ret_of_W Tryz.func57 rfl rfl rfl ?_
 refine W.seq ?_
 refine W.region rfl ?_
 refine t_box (v := .agg #[I x.watch, I x.stage, B x.danger]) (cs := [I x.watch, I x.stage, B x.danger]) H rfl rfl ?_
 intro b_1 w1z H
 refine s_val (x_as (v := B false) rfl) ?_
 refine s_nil ?_
 refine W.seq ?_
 refine W.region rfl ?_
 refine s_val (x_fa (a := .pointer (some ⟨b_1, 0, none⟩)) (v := .pointer (some ⟨b_1, 2, none⟩)) rfl (fa_blk (o := 0) Fd101_2 Sz4)) ?_
 refine s_val (x_ld (p := .pointer (some ⟨b_1, 2, none⟩)) (v := B x.danger) rfl (ldb_sc Sc4 (H.blk (k := 0) rfl) rfl)) ?_
 refine s_val (x_mv (v := B x.danger) rfl) ?_
 refine g_val x.danger (gy_t rfl) (fun hg => x_ld (p := .pointer (some ⟨b_k0, 0, none⟩)) (v := .func (.func 55) #[] #[.pointer (some ⟨b_k020, 0, none⟩), .pointer (some ⟨b_k021, 0, none⟩)]) rfl (ldb_sc Sc106 (h_b_k0.blk H) rfl)) ?_
 refine g_val x.danger (gy_t rfl) (fun hg => x_ld (p := .pointer (some ⟨b_1, 0, none⟩)) (v := .agg #[I x.watch, I x.stage, B x.danger]) rfl (ldb_ag (ds := [I x.watch, I x.stage, B x.danger]) Ag101 Sz101 (H.blk (k := 0) rfl) rfl rfl)) ?_
 obtain ⟨r2, hx2z, hM⟩ := M.e_bind hM
 refine t_gcallv (cap := [.pointer (some ⟨b_k020, 0, none⟩), .pointer (some ⟨b_k021, 0, none⟩)]) x.danger (gy_t rfl) cf55 (fun hg => (gd_of (c := x.danger) hg (.func (.func 55) #[] #[.pointer (some ⟨b_k020, 0, none⟩), .pointer (some ⟨b_k021, 0, none⟩)]))) (B r2) (fun _ => [.agg #[I x.watch, I x.stage, B x.danger]]) (fun hg => lst1 (gd_of (c := x.danger) hg (.agg #[I x.watch, I x.stage, B x.danger]))) H (fun hg => (zcF x k0202 k0212 (hC_k0202.app _) hs_k0202 (h_b_k020.app _) (hC_k0212.app _) hs_k0212 (h_b_k021.app _) (M.e_opt hx2z hg) _ (H.give (A := []) rfl)).mono fun v_ w_ ⟨y_, hr_, hv_, H_⟩ => by subst hr_; exact ⟨hv_, H.via H_⟩) ?_
 intro w3z H
 refine g_val x.danger (gy_t rfl) (fun hg => x_not (b := r2) (gd_of (c := x.danger) hg (B r2))) ?_
 refine s_val (x_pand (b := x.danger) (r := !r2) rfl (fun hb => gd_of (c := x.danger) (by first | exact hb | (rw [hb]; rfl) | simp_all) (B (!r2))) rfl) ?_
 refine s_val (x_as (v := B (x.danger && (!r2))) rfl) ?_
 refine s_nil ?_
 refine W.ret ?_
 have hr_ := M.e_pure hM
 exact ⟨_, resE_tmp rfl, ⟨(x.danger && (!r2)), hr_, rfl, (H.pk [])⟩⟩

def zbU (w__River_Down : List Int) (w__River_Travel : List Span) (w__River_Springs : List Int) (w__River_Towns : List Town) (w__River_Delay_Lo : Int) (w__River_Delay_Hi : Int) (w__River_Floods : List Flood) (p : List Bool) (r_00202 : List Int) (r_00212 : List Int) : (Nat × (List Int)) -> M ((Nat × (List Int)) ⊕ ((List Int) × (List Int))) := fun (s, l) =>
  bif decide ((s : Int) < (w__River_Floods.length : Int)) then (
  M.grd (decide ((s : Int) < (w__River_Floods.length : Int))) <|
  M.bind (zaW w__River_Down w__River_Travel w__River_Springs w__River_Towns w__River_Delay_Lo w__River_Delay_Hi w__River_Floods (w__River_Floods.getD s default) p) fun (r0, r1, r2) =>
  M.bind (zcD (⟨(r0 : Int), (r1 : Int), r2⟩ : Rpt) r_00202 r_00212) fun r3 =>
  bif r3 then (
  M.grd (decide ((l.length + ([(s : Int)]).length) * 8 <= 140737488355328)) <|
  M.pure (.inl (s + 1, l ++ ([(s : Int)]))))
  else (
  M.pure (.inl (s + 1, l))))
  else (
  M.pure (.inr (l, l)))
def zcq (w__River_Down : List Int) (w__River_Travel : List Span) (w__River_Springs : List Int) (w__River_Towns : List Town) (w__River_Delay_Lo : Int) (w__River_Delay_Hi : Int) (w__River_Floods : List Flood) (p : List Bool) (r_00202 : List Int) (r_00212 : List Int) : M (List Int) :=
  M.bind (M.iter (zbU w__River_Down w__River_Travel w__River_Springs w__River_Towns w__River_Delay_Lo w__River_Delay_Hi w__River_Floods p r_00202 r_00212) (0, [])) fun (l2, l3) =>
  M.pure l3
theorem zdy {R : List Chunk} {b_w_ : Nat} {C_w__River_Down : Cells} {v_w__River_Down : Value} {C_w__River_Travel : Cells} {v_w__River_Travel : Value} {C_w__River_Springs : Cells} {v_w__River_Springs : Value} {C_w__River_Towns : Cells} {v_w__River_Towns : Value} {C_w__River_Floods : Cells} {v_w__River_Floods : Value} {b_w__found : Nat} {b_r_00 : Nat} {b_r_0020 : Nat} {C_r_00202 : Cells} {v_r_00202 : Value} {b_r_0021 : Nat} {C_r_00212 : Cells} {v_r_00212 : Value} (w__River_Down : List Int) (w__River_Travel : List Span) (w__River_Springs : List Int) (w__River_Towns : List Town) (w__River_Delay_Lo : Int) (w__River_Delay_Hi : Int) (w__River_Floods : List Flood) (p : List Bool) (r_00202 : List Int) (r_00212 : List Int) (hC_w__River_Down : Reads R C_w__River_Down) (hs_w__River_Down : Sl C_w__River_Down v_w__River_Down w__River_Down) (hC_w__River_Travel : Reads R C_w__River_Travel) (hs_w__River_Travel : Sl C_w__River_Travel v_w__River_Travel w__River_Travel) (hC_w__River_Springs : Reads R C_w__River_Springs) (hs_w__River_Springs : Sl C_w__River_Springs v_w__River_Springs w__River_Springs) (hC_w__River_Towns : Reads R C_w__River_Towns) (hs_w__River_Towns : Sl C_w__River_Towns v_w__River_Towns w__River_Towns) (hC_w__River_Floods : Reads R C_w__River_Floods) (hs_w__River_Floods : Sl C_w__River_Floods v_w__River_Floods w__River_Floods) (h_b_w_ : Has R (cBlk b_w_ [v_w__River_Down, v_w__River_Travel, v_w__River_Springs, v_w__River_Towns, I w__River_Delay_Lo, I w__River_Delay_Hi, v_w__River_Floods, .map (some b_w__found)] 111)) (hl_p : p.length = 12) (hC_r_00202 : Reads R C_r_00202) (hs_r_00202 : Sl C_r_00202 v_r_00202 r_00202) (h_b_r_0020 : Has R (cBlk b_r_0020 [v_r_00202] 22)) (hC_r_00212 : Reads R C_r_00212) (hs_r_00212 : Sl C_r_00212 v_r_00212 r_00212) (h_b_r_0021 : Has R (cBlk b_r_0021 [v_r_00212] 22)) (h_b_r_00 : Has R (cBlk b_r_00 [.func (.func 55) #[] #[.pointer (some ⟨b_r_0020, 0, none⟩), .pointer (some ⟨b_r_0021, 0, none⟩)]] 106)) {r : (List Int)} (hM : (zcq w__River_Down w__River_Travel w__River_Springs w__River_Towns w__River_Delay_Lo w__River_Delay_Hi w__River_Floods p r_00202 r_00212).Ends r) (w : World) (H : St w w [] R) : Ret Tryz.prog 51 #[.pointer (some ⟨b_w_, 0, none⟩), .agg (encB p).toArray, .agg #[.func (.func 57) #[] #[.pointer (some ⟨b_r_00, 0, none⟩)]]] w fun v w' => ∃ (y0 : List Int) (u0 : Value), y0 = r /\ v = u0 /\ St w w' [cOwn (α := Int) 3 u0 y0] R := by
 refine ret_of_W Tryz.func51 rfl rfl rfl ?_
 refine W.seq ?_
 refine W.region rfl ?_
 refine t_box (v := .agg (encB p).toArray) (cs := encB p) H rfl rfl ?_
 intro b_1 w1z H
 refine t_box (v := .agg #[.func (.func 57) #[] #[.pointer (some ⟨b_r_00, 0, none⟩)]]) (cs := [.func (.func 57) #[] #[.pointer (some ⟨b_r_00, 0, none⟩)]]) H rfl rfl ?_
 intro b_2 w2z H
 refine s_val (x_as (v := .slice none 0 0) rfl) ?_
 refine s_nil ?_
 refine W.seq ?_
 refine W.region rfl ?_
 refine s_val (x_as (v := .slice none 0 0) rfl) ?_
 refine s_nil ?_
 refine W.seq ?_
 refine W.seq ?_
 refine W.region rfl ?_
 refine s_val (x_mv (v := .pointer (some ⟨b_w_, 0, none⟩)) rfl) ?_
 refine s_val (x_nc (a := ⟨b_w_, 0, none⟩) rfl) ?_
 refine s_val (x_fa (a := .pointer (some ⟨b_w_, 0, none⟩)) (v := .pointer (some ⟨b_w_, 0, none⟩)) rfl (fa_blk (o := 0) Fd111_0 Sz29)) ?_
 refine s_val (x_fa (a := .pointer (some ⟨b_w_, 0, none⟩)) (v := .pointer (some ⟨b_w_, 6, none⟩)) rfl (fa_blk (o := 0) Fd29_5 Sz27)) ?_
 refine s_val (x_ld (p := .pointer (some ⟨b_w_, 6, none⟩)) (v := v_w__River_Floods) rfl (ldb_sc Sc27 (h_b_w_.blk H) rfl)) ?_
 have hl3z := (hs_w__River_Floods).len_le
 refine s_val (x_lenS T27.und rfl hs_w__River_Floods) ?_
 refine s_val (x_mv (v := I 0) rfl) ?_
 refine s_nil ?_
 refine W.block ?_
 replace H := H.nilOwn (α := Int) 3
 obtain ⟨ex4z, hi5z, hk6z⟩ := M.e_bind hM
 obtain ⟨m0_, hi5z⟩ := M.e_iter hi5z
 refine W.loop (fun m σ W => ∃ (s : Nat) (l : List Int) (v_l : Value) (ρ : Env), σ = upds ρ [(0, .pointer (some ⟨b_w_, 0, none⟩)), (4, .pointer (some ⟨b_1, 0, none⟩)), (5, .pointer (some ⟨b_2, 0, none⟩)), (7, v_l), (14, v_w__River_Floods), (15, I (w__River_Floods.length : Int)), (16, I (s : Int))] /\ M.iterN (zbU w__River_Down w__River_Travel w__River_Springs w__River_Towns w__River_Delay_Lo w__River_Delay_Hi w__River_Floods p r_00202 r_00212) m (s, l) = some ex4z /\ St w W [cOwn (α := Int) 3 v_l l, cBlk b_2 [.func (.func 57) #[] #[.pointer (some ⟨b_r_00, 0, none⟩)]] 108, cBlk b_1 (encB p) 96] R) ?_ ?_
 ·exact ⟨_, 0, [], (.slice none 0 0), _, upds_of _ _ ⟨rfl, rfl, rfl, rfl, rfl, rfl, rfl, trivial⟩, hi5z, H⟩
 rintro m9z σ w7z ⟨s, l, v_l, ρ, rfl, hI8z, H⟩
 obtain ⟨m10z, lt11z, x12z, hM, hN13z⟩ := M.e_iterN hI8z
 simp only [zbU] at hM
 clear hI8z
 refine W.seq ?_
 refine W.region rfl ?_
 refine s_val (x_cmp (kd := .i64) (a := (s : Int)) (b := (w__River_Floods.length : Int)) (r := decide ((s : Int) < (w__River_Floods.length : Int))) rfl rfl rfl) ?_
 refine s_nil ?_
 refine W.seq ?_
 refine W.cond (decide ((s : Int) < (w__River_Floods.length : Int))) rfl (fun c14z => ?_) (fun c14z => ?_)
 ·replace hM := M.e_t hM c14z
  simp only [decide_eq_true_eq, decide_eq_false_iff_not, beq_iff_eq, bne_iff_ne, beq_eq_false_iff_ne, bne_eq_false_iff_eq, ne_eq, Decidable.not_not] at c14z
  refine W.skip ?_
  refine W.seq ?_
  refine W.block ?_
  refine W.seq ?_
  refine W.region rfl ?_
  refine s_val (x_mv (v := I (s : Int)) rfl) ?_
  obtain ⟨sd15z, hM⟩ := M.e_grd hM
  simp only [Bool.and_eq_true, decide_eq_true_eq] at sd15z
  refine s_val (x_ix (a := v_w__River_Floods) (b := I (s : Int)) (v := vat v_w__River_Floods 2 (Int.toNat (s : Int))) rfl rfl (Sl.ix (α := Flood) T27.und T27.size hs_w__River_Floods (by omega) (by omega))) ?_
  obtain ⟨u16z, ha18z, hs17z⟩ := Flood_atA hs_w__River_Floods (i := (s : Int)) (by omega) (by omega)
  replace hs17z : Sl _ u16z (w__River_Floods.getD s default).stages := hs17z
  have hl_hs17z := hs17z.len_le
  refine s_val (x_ld (p := vat v_w__River_Floods 2 (Int.toNat (s : Int))) (v := .agg #[I ((w__River_Floods.getD s default).spring), u16z]) rfl (ld_ag Ag85 Sz85 (At.mono ha18z (hC_w__River_Floods.at H)))) ?_
  refine t_alloc (cs := [I 0, .slice none 0 0]) H Al85 rfl ?_
  intro b_3 w19z H
  refine s_val (x_as (v := I (s : Int)) rfl) ?_
  refine t_sw 0 0 [I ((w__River_Floods.getD s default).spring), u16z] (.agg #[I ((w__River_Floods.getD s default).spring), u16z]) H rfl rfl Sz85 rfl rfl rfl (by simp only [List.all_cons, List.all_nil, Bool.true_and, Bool.and_true, Sl.oc hs17z]; try rfl) ?_
  intro w20z H
  refine s_nil ?_
  refine W.seq ?_
  refine W.draw (fun W => St w W [cBlk b_3 [I ((w__River_Floods.getD s default).spring), u16z] 85, cOwn (α := Int) 3 v_l l, cBlk b_2 [.func (.func 57) #[] #[.pointer (some ⟨b_r_00, 0, none⟩)]] 108, cBlk b_1 (encB p) 96] R) [(0, true), (1, true), (2, true), (3, true), (4, true), (5, false), (6, false)] mixed (by decide +kernel) rfl ?_
  intro w21z hx_
  replace H := H.ext hx_
  clear hx_
  refine ⟨(H.pk [0, 1, 2, 3]), ?_⟩
  refine d_q rfl (fun w' H => x_fa (a := .pointer (some ⟨b_2, 0, none⟩)) (v := .pointer (some ⟨b_2, 0, none⟩)) rfl (fa_blk (o := 0) Fd108_0 Sz106)) ?_
  refine d_q rfl (fun w' H => x_ld (p := .pointer (some ⟨b_2, 0, none⟩)) (v := .func (.func 57) #[] #[.pointer (some ⟨b_r_00, 0, none⟩)]) rfl (ldb_sc Sc106 (H.blk (k := 2) rfl) rfl)) ?_
  refine d_q rfl (fun w' H => x_mv (v := .pointer (some ⟨b_w_, 0, none⟩)) rfl) ?_
  refine d_q rfl (fun w' H => x_ld (p := .pointer (some ⟨b_3, 0, none⟩)) (v := .agg #[I ((w__River_Floods.getD s default).spring), u16z]) rfl (ldb_ag (ds := [I ((w__River_Floods.getD s default).spring), u16z]) Ag85 Sz85 (H.blk (k := 0) rfl) rfl rfl)) ?_
  refine d_q rfl (fun w' H => x_ld (p := .pointer (some ⟨b_1, 0, none⟩)) (v := .agg (encB p).toArray) rfl (ldArrA Ag96 Sz96 hl_p (H.blk (k := 3) rfl))) ?_
  refine d_l rfl ?_
  obtain ⟨r23z, hx22z, hM⟩ := M.e_bind hM
  refine s_call cf48 [.pointer (some ⟨b_w_, 0, none⟩), .agg #[I ((w__River_Floods.getD s default).spring), u16z], .agg (encB p).toArray] rfl (zbl w__River_Down w__River_Travel w__River_Springs w__River_Towns w__River_Delay_Lo w__River_Delay_Hi w__River_Floods (w__River_Floods.getD s default) p (hC_w__River_Down.app _) hs_w__River_Down (hC_w__River_Travel.app _) hs_w__River_Travel (hC_w__River_Springs.app _) hs_w__River_Springs (hC_w__River_Towns.app _) hs_w__River_Towns (hC_w__River_Floods.app _) hs_w__River_Floods (h_b_w_.app _) (hC_w__River_Floods.app _) hs17z hl_p hx22z _ (H.gt 4)) ?_
  rintro vq w24z ⟨r0, r1, r2, hr25z, hvq, H2_⟩
  subst hr25z
  subst vq
  try dsimp only at hM
  replace H := H.bk H2_
  clear H2_
  refine s_nil ⟨(H.pk [0, 1, 2, 3]), ?_⟩
  refine d_l rfl ?_
  obtain ⟨r27z, hx26z, hM⟩ := M.e_bind hM
  refine s_callv (f := 57) rfl cf57 [.agg #[I r0, I r1, B r2]] rfl (zdE (⟨(r0 : Int), (r1 : Int), r2⟩ : Rpt) r_00202 r_00212 (hC_r_00202.app _) hs_r_00202 (h_b_r_0020.app _) (hC_r_00212.app _) hs_r_00212 (h_b_r_0021.app _) (h_b_r_00.app _) hx26z _ (H.gt 4)) ?_
  rintro vq w28z ⟨r3, hr29z, hvq, H2_⟩
  subst hr29z
  subst vq
  try dsimp only at hM
  replace H := H.bk H2_
  clear H2_
  refine s_nil ⟨(H.pk [0, 1, 2, 3]), ?_⟩
  refine d_nil ?_
  refine W.cond r3 rfl (fun c30z => ?_) (fun c30z => ?_)
  ·replace hM := M.e_t hM c30z
   refine W.region rfl ?_
   refine s_val (x_mv (v := v_l) rfl) ?_
   refine s_val (x_mv (v := I (s : Int)) rfl) ?_
   refine t_bs (α := Int) T22 [I (s : Int)] [(s : Int)] H rfl (.cons rfl (Flat.rep_enc _ (s : Int)) <| .nil) rfl rfl rfl ?_
   intro v31z w32z H
   obtain ⟨sd33z, hM⟩ := M.e_grd hM
   simp only [Bool.and_eq_true, decide_eq_true_eq] at sd33z
   refine t_app (α := Int) (k := 2) (l := l) (l2 := [(s : Int)]) (l' := l ++ ([(s : Int)])) (vy := v31z) T22 rfl H rfl rfl rfl (ownSl (H.get (k := 0) rfl)) (ownLe _ (H.get (k := 0) rfl)) (rfl) (by first | omega | (simp only [List.length_nil] at *; omega)) ?_
   intro v34z w35z H
   replace H := H.nf
   refine s_val (x_as (v := v34z) rfl) ?_
   refine s_nil ?_
   replace H := H.pk [2, 3, 4]
   refine W.region rfl ?_
   refine s_val (x_ari (a := (s : Int)) (b := 1) (r := (s : Int) + 1) rfl rfl rfl (by omega)) ?_
   refine s_val (x_mv (v := I ((s : Int) + 1)) rfl) ?_
   refine s_nil ?_
   exact ⟨m10z, lt11z, s + 1, l ++ ([(s : Int)]), v34z, _, upds_of _ _ ⟨rfl, rfl, rfl, rfl, rfl, rfl, rfl, trivial⟩, M.e_inl hM hN13z, H⟩
  replace hM := M.e_f hM c30z
  refine W.skip ?_
  refine W.region rfl ?_
  refine s_val (x_ari (a := (s : Int)) (b := 1) (r := (s : Int) + 1) rfl rfl rfl (by omega)) ?_
  refine s_val (x_mv (v := I ((s : Int) + 1)) rfl) ?_
  refine s_nil ?_
  exact ⟨m10z, lt11z, s + 1, l, v_l, _, upds_of _ _ ⟨rfl, rfl, rfl, rfl, rfl, rfl, rfl, trivial⟩, M.e_inl hM hN13z, (H.pk [1, 2, 3])⟩
 replace hM := M.e_f hM c14z
 simp only [decide_eq_true_eq, decide_eq_false_iff_not, beq_iff_eq, bne_iff_ne, beq_eq_false_iff_ne, bne_eq_false_iff_eq, ne_eq, Decidable.not_not] at c14z
 refine W.exit ?_
 have hX36z := M.e_inr hM hN13z
 subst hX36z
 replace hM := hk6z
 try dsimp only at hM
 replace H := H.pk [0]
 refine W.seq ?_
 refine W.region rfl ?_
 refine s_val (x_mv (v := v_l) rfl) ?_
 refine s_val (x_as (v := v_l) rfl) ?_
 refine s_nil ?_
 refine W.ret ?_
 have hr_ := M.e_pure hM
 exact ⟨_, resE_tmp rfl, ⟨l, v_l, hr_, rfl, H⟩⟩

def zcI (x : Rpt) (k0202 : List Int) (k0212 : List Int) : M Bool :=
  M.bind (M.opt (!x.danger) (zca x k0202 k0212) false) fun r2 =>
  M.pure ((!x.danger) && r2)
theorem zdp {R : List Chunk} {b_k0 : Nat} {b_k020 : Nat} {C_k0202 : Cells} {v_k0202 : Value} {b_k021 : Nat} {C_k0212 : Cells} {v_k0212 : Value} (x : Rpt) (k0202 : List Int) (k0212 : List Int) (hC_k0202 : Reads R C_k0202) (hs_k0202 : Sl C_k0202 v_k0202 k0202) (h_b_k020 : Has R (cBlk b_k020 [v_k0202] 22)) (hC_k0212 : Reads R C_k0212) (hs_k0212 : Sl C_k0212 v_k0212 k0212) (h_b_k021 : Has R (cBlk b_k021 [v_k0212] 22)) (h_b_k0 : Has R (cBlk b_k0 [.func (.func 55) #[] #[.pointer (some ⟨b_k020, 0, none⟩), .pointer (some ⟨b_k021, 0, none⟩)]] 106)) {r : Bool} (hM : (zcI x k0202 k0212).Ends r) (w : World) (H : St w w [] R) : Ret Tryz.prog 58 #[.agg #[I x.watch, I x.stage, B x.danger], .pointer (some ⟨b_k0, 0, none⟩)] w fun v w' => ∃ (y0 : Bool), y0 = r /\ v = B y0 /\ St w w' [] R := by
 refine ret_of_W Tryz.func58 rfl rfl rfl ?_
 refine W.seq ?_
 refine W.region rfl ?_
 refine t_box (v := .agg #[I x.watch, I x.stage, B x.danger]) (cs := [I x.watch, I x.stage, B x.danger]) H rfl rfl ?_
 intro b_1 w1z H
 refine s_val (x_as (v := B false) rfl) ?_
 refine s_nil ?_
 refine W.seq ?_
 refine W.region rfl ?_
 refine s_val (x_fa (a := .pointer (some ⟨b_1, 0, none⟩)) (v := .pointer (some ⟨b_1, 2, none⟩)) rfl (fa_blk (o := 0) Fd101_2 Sz4)) ?_
 refine s_val (x_ld (p := .pointer (some ⟨b_1, 2, none⟩)) (v := B x.danger) rfl (ldb_sc Sc4 (H.blk (k := 0) rfl) rfl)) ?_
 refine s_val (x_not (b := x.danger) rfl) ?_
 refine s_val (x_mv (v := B (!x.danger)) rfl) ?_
 refine g_val (!x.danger) (gy_t rfl) (fun hg => x_ld (p := .pointer (some ⟨b_k0, 0, none⟩)) (v := .func (.func 55) #[] #[.pointer (some ⟨b_k020, 0, none⟩), .pointer (some ⟨b_k021, 0, none⟩)]) rfl (ldb_sc Sc106 (h_b_k0.blk H) rfl)) ?_
 refine g_val (!x.danger) (gy_t rfl) (fun hg => x_ld (p := .pointer (some ⟨b_1, 0, none⟩)) (v := .agg #[I x.watch, I x.stage, B x.danger]) rfl (ldb_ag (ds := [I x.watch, I x.stage, B x.danger]) Ag101 Sz101 (H.blk (k := 0) rfl) rfl rfl)) ?_
 obtain ⟨r2, hx2z, hM⟩ := M.e_bind hM
 refine t_gcallv (cap := [.pointer (some ⟨b_k020, 0, none⟩), .pointer (some ⟨b_k021, 0, none⟩)]) (!x.danger) (gy_t rfl) cf55 (fun hg => (gd_of (c := !x.danger) hg (.func (.func 55) #[] #[.pointer (some ⟨b_k020, 0, none⟩), .pointer (some ⟨b_k021, 0, none⟩)]))) (B r2) (fun _ => [.agg #[I x.watch, I x.stage, B x.danger]]) (fun hg => lst1 (gd_of (c := !x.danger) hg (.agg #[I x.watch, I x.stage, B x.danger]))) H (fun hg => (zcF x k0202 k0212 (hC_k0202.app _) hs_k0202 (h_b_k020.app _) (hC_k0212.app _) hs_k0212 (h_b_k021.app _) (M.e_opt hx2z hg) _ (H.give (A := []) rfl)).mono fun v_ w_ ⟨y_, hr_, hv_, H_⟩ => by subst hr_; exact ⟨hv_, H.via H_⟩) ?_
 intro w3z H
 refine s_val (x_pand (b := !x.danger) (r := r2) rfl (fun hb => gd_of (c := !x.danger) (by first | exact hb | (rw [hb]; rfl) | simp_all) (B r2)) rfl) ?_
 refine s_val (x_as (v := B ((!x.danger) && r2)) rfl) ?_
 refine s_nil ?_
 refine W.ret ?_
 have hr_ := M.e_pure hM
 exact ⟨_, resE_tmp rfl, ⟨((!x.danger) && r2), hr_, rfl, (H.pk [])⟩⟩

def zb5 (w__River_Down : List Int) (w__River_Travel : List Span) (w__River_Springs : List Int) (w__River_Towns : List Town) (w__River_Delay_Lo : Int) (w__River_Delay_Hi : Int) (w__River_Floods : List Flood) (p : List Bool) (r_00202 : List Int) (r_00212 : List Int) : (Nat × (List Int)) -> M ((Nat × (List Int)) ⊕ ((List Int) × (List Int))) := fun (s, l) =>
  bif decide ((s : Int) < (w__River_Floods.length : Int)) then (
  M.grd (decide ((s : Int) < (w__River_Floods.length : Int))) <|
  M.bind (zaW w__River_Down w__River_Travel w__River_Springs w__River_Towns w__River_Delay_Lo w__River_Delay_Hi w__River_Floods (w__River_Floods.getD s default) p) fun (r0, r1, r2) =>
  M.bind (zcI (⟨(r0 : Int), (r1 : Int), r2⟩ : Rpt) r_00202 r_00212) fun r3 =>
  bif r3 then (
  M.grd (decide ((l.length + ([(s : Int)]).length) * 8 <= 140737488355328)) <|
  M.pure (.inl (s + 1, l ++ ([(s : Int)]))))
  else (
  M.pure (.inl (s + 1, l))))
  else (
  M.pure (.inr (l, l)))
def zcY (w__River_Down : List Int) (w__River_Travel : List Span) (w__River_Springs : List Int) (w__River_Towns : List Town) (w__River_Delay_Lo : Int) (w__River_Delay_Hi : Int) (w__River_Floods : List Flood) (p : List Bool) (r_00202 : List Int) (r_00212 : List Int) : M (List Int) :=
  M.bind (M.iter (zb5 w__River_Down w__River_Travel w__River_Springs w__River_Towns w__River_Delay_Lo w__River_Delay_Hi w__River_Floods p r_00202 r_00212) (0, [])) fun (l2, l3) =>
  M.pure l3
theorem zds {R : List Chunk} {b_w_ : Nat} {C_w__River_Down : Cells} {v_w__River_Down : Value} {C_w__River_Travel : Cells} {v_w__River_Travel : Value} {C_w__River_Springs : Cells} {v_w__River_Springs : Value} {C_w__River_Towns : Cells} {v_w__River_Towns : Value} {C_w__River_Floods : Cells} {v_w__River_Floods : Value} {b_w__found : Nat} {b_r_00 : Nat} {b_r_0020 : Nat} {C_r_00202 : Cells} {v_r_00202 : Value} {b_r_0021 : Nat} {C_r_00212 : Cells} {v_r_00212 : Value} (w__River_Down : List Int) (w__River_Travel : List Span) (w__River_Springs : List Int) (w__River_Towns : List Town) (w__River_Delay_Lo : Int) (w__River_Delay_Hi : Int) (w__River_Floods : List Flood) (p : List Bool) (r_00202 : List Int) (r_00212 : List Int) (hC_w__River_Down : Reads R C_w__River_Down) (hs_w__River_Down : Sl C_w__River_Down v_w__River_Down w__River_Down) (hC_w__River_Travel : Reads R C_w__River_Travel) (hs_w__River_Travel : Sl C_w__River_Travel v_w__River_Travel w__River_Travel) (hC_w__River_Springs : Reads R C_w__River_Springs) (hs_w__River_Springs : Sl C_w__River_Springs v_w__River_Springs w__River_Springs) (hC_w__River_Towns : Reads R C_w__River_Towns) (hs_w__River_Towns : Sl C_w__River_Towns v_w__River_Towns w__River_Towns) (hC_w__River_Floods : Reads R C_w__River_Floods) (hs_w__River_Floods : Sl C_w__River_Floods v_w__River_Floods w__River_Floods) (h_b_w_ : Has R (cBlk b_w_ [v_w__River_Down, v_w__River_Travel, v_w__River_Springs, v_w__River_Towns, I w__River_Delay_Lo, I w__River_Delay_Hi, v_w__River_Floods, .map (some b_w__found)] 111)) (hl_p : p.length = 12) (hC_r_00202 : Reads R C_r_00202) (hs_r_00202 : Sl C_r_00202 v_r_00202 r_00202) (h_b_r_0020 : Has R (cBlk b_r_0020 [v_r_00202] 22)) (hC_r_00212 : Reads R C_r_00212) (hs_r_00212 : Sl C_r_00212 v_r_00212 r_00212) (h_b_r_0021 : Has R (cBlk b_r_0021 [v_r_00212] 22)) (h_b_r_00 : Has R (cBlk b_r_00 [.func (.func 55) #[] #[.pointer (some ⟨b_r_0020, 0, none⟩), .pointer (some ⟨b_r_0021, 0, none⟩)]] 106)) {r : (List Int)} (hM : (zcY w__River_Down w__River_Travel w__River_Springs w__River_Towns w__River_Delay_Lo w__River_Delay_Hi w__River_Floods p r_00202 r_00212).Ends r) (w : World) (H : St w w [] R) : Ret Tryz.prog 51 #[.pointer (some ⟨b_w_, 0, none⟩), .agg (encB p).toArray, .agg #[.func (.func 58) #[] #[.pointer (some ⟨b_r_00, 0, none⟩)]]] w fun v w' => ∃ (y0 : List Int) (u0 : Value), y0 = r /\ v = u0 /\ St w w' [cOwn (α := Int) 3 u0 y0] R := by
 refine ret_of_W Tryz.func51 rfl rfl rfl ?_
 refine W.seq ?_
 refine W.region rfl ?_
 refine t_box (v := .agg (encB p).toArray) (cs := encB p) H rfl rfl ?_
 intro b_1 w1z H
 refine t_box (v := .agg #[.func (.func 58) #[] #[.pointer (some ⟨b_r_00, 0, none⟩)]]) (cs := [.func (.func 58) #[] #[.pointer (some ⟨b_r_00, 0, none⟩)]]) H rfl rfl ?_
 intro b_2 w2z H
 refine s_val (x_as (v := .slice none 0 0) rfl) ?_
 refine s_nil ?_
 refine W.seq ?_
 refine W.region rfl ?_
 refine s_val (x_as (v := .slice none 0 0) rfl) ?_
 refine s_nil ?_
 refine W.seq ?_
 refine W.seq ?_
 refine W.region rfl ?_
 refine s_val (x_mv (v := .pointer (some ⟨b_w_, 0, none⟩)) rfl) ?_
 refine s_val (x_nc (a := ⟨b_w_, 0, none⟩) rfl) ?_
 refine s_val (x_fa (a := .pointer (some ⟨b_w_, 0, none⟩)) (v := .pointer (some ⟨b_w_, 0, none⟩)) rfl (fa_blk (o := 0) Fd111_0 Sz29)) ?_
 refine s_val (x_fa (a := .pointer (some ⟨b_w_, 0, none⟩)) (v := .pointer (some ⟨b_w_, 6, none⟩)) rfl (fa_blk (o := 0) Fd29_5 Sz27)) ?_
 refine s_val (x_ld (p := .pointer (some ⟨b_w_, 6, none⟩)) (v := v_w__River_Floods) rfl (ldb_sc Sc27 (h_b_w_.blk H) rfl)) ?_
 have hl3z := (hs_w__River_Floods).len_le
 refine s_val (x_lenS T27.und rfl hs_w__River_Floods) ?_
 refine s_val (x_mv (v := I 0) rfl) ?_
 refine s_nil ?_
 refine W.block ?_
 replace H := H.nilOwn (α := Int) 3
 obtain ⟨ex4z, hi5z, hk6z⟩ := M.e_bind hM
 obtain ⟨m0_, hi5z⟩ := M.e_iter hi5z
 refine W.loop (fun m σ W => ∃ (s : Nat) (l : List Int) (v_l : Value) (ρ : Env), σ = upds ρ [(0, .pointer (some ⟨b_w_, 0, none⟩)), (4, .pointer (some ⟨b_1, 0, none⟩)), (5, .pointer (some ⟨b_2, 0, none⟩)), (7, v_l), (14, v_w__River_Floods), (15, I (w__River_Floods.length : Int)), (16, I (s : Int))] /\ M.iterN (zb5 w__River_Down w__River_Travel w__River_Springs w__River_Towns w__River_Delay_Lo w__River_Delay_Hi w__River_Floods p r_00202 r_00212) m (s, l) = some ex4z /\ St w W [cOwn (α := Int) 3 v_l l, cBlk b_2 [.func (.func 58) #[] #[.pointer (some ⟨b_r_00, 0, none⟩)]] 108, cBlk b_1 (encB p) 96] R) ?_ ?_
 ·exact ⟨_, 0, [], (.slice none 0 0), _, upds_of _ _ ⟨rfl, rfl, rfl, rfl, rfl, rfl, rfl, trivial⟩, hi5z, H⟩
 rintro m9z σ w7z ⟨s, l, v_l, ρ, rfl, hI8z, H⟩
 obtain ⟨m10z, lt11z, x12z, hM, hN13z⟩ := M.e_iterN hI8z
 simp only [zb5] at hM
 clear hI8z
 refine W.seq ?_
 refine W.region rfl ?_
 refine s_val (x_cmp (kd := .i64) (a := (s : Int)) (b := (w__River_Floods.length : Int)) (r := decide ((s : Int) < (w__River_Floods.length : Int))) rfl rfl rfl) ?_
 refine s_nil ?_
 refine W.seq ?_
 refine W.cond (decide ((s : Int) < (w__River_Floods.length : Int))) rfl (fun c14z => ?_) (fun c14z => ?_)
 ·replace hM := M.e_t hM c14z
  simp only [decide_eq_true_eq, decide_eq_false_iff_not, beq_iff_eq, bne_iff_ne, beq_eq_false_iff_ne, bne_eq_false_iff_eq, ne_eq, Decidable.not_not] at c14z
  refine W.skip ?_
  refine W.seq ?_
  refine W.block ?_
  refine W.seq ?_
  refine W.region rfl ?_
  refine s_val (x_mv (v := I (s : Int)) rfl) ?_
  obtain ⟨sd15z, hM⟩ := M.e_grd hM
  simp only [Bool.and_eq_true, decide_eq_true_eq] at sd15z
  refine s_val (x_ix (a := v_w__River_Floods) (b := I (s : Int)) (v := vat v_w__River_Floods 2 (Int.toNat (s : Int))) rfl rfl (Sl.ix (α := Flood) T27.und T27.size hs_w__River_Floods (by omega) (by omega))) ?_
  obtain ⟨u16z, ha18z, hs17z⟩ := Flood_atA hs_w__River_Floods (i := (s : Int)) (by omega) (by omega)
  replace hs17z : Sl _ u16z (w__River_Floods.getD s default).stages := hs17z
  have hl_hs17z := hs17z.len_le
  refine s_val (x_ld (p := vat v_w__River_Floods 2 (Int.toNat (s : Int))) (v := .agg #[I ((w__River_Floods.getD s default).spring), u16z]) rfl (ld_ag Ag85 Sz85 (At.mono ha18z (hC_w__River_Floods.at H)))) ?_
  refine t_alloc (cs := [I 0, .slice none 0 0]) H Al85 rfl ?_
  intro b_3 w19z H
  refine s_val (x_as (v := I (s : Int)) rfl) ?_
  refine t_sw 0 0 [I ((w__River_Floods.getD s default).spring), u16z] (.agg #[I ((w__River_Floods.getD s default).spring), u16z]) H rfl rfl Sz85 rfl rfl rfl (by simp only [List.all_cons, List.all_nil, Bool.true_and, Bool.and_true, Sl.oc hs17z]; try rfl) ?_
  intro w20z H
  refine s_nil ?_
  refine W.seq ?_
  refine W.draw (fun W => St w W [cBlk b_3 [I ((w__River_Floods.getD s default).spring), u16z] 85, cOwn (α := Int) 3 v_l l, cBlk b_2 [.func (.func 58) #[] #[.pointer (some ⟨b_r_00, 0, none⟩)]] 108, cBlk b_1 (encB p) 96] R) [(0, true), (1, true), (2, true), (3, true), (4, true), (5, false), (6, false)] mixed (by decide +kernel) rfl ?_
  intro w21z hx_
  replace H := H.ext hx_
  clear hx_
  refine ⟨(H.pk [0, 1, 2, 3]), ?_⟩
  refine d_q rfl (fun w' H => x_fa (a := .pointer (some ⟨b_2, 0, none⟩)) (v := .pointer (some ⟨b_2, 0, none⟩)) rfl (fa_blk (o := 0) Fd108_0 Sz106)) ?_
  refine d_q rfl (fun w' H => x_ld (p := .pointer (some ⟨b_2, 0, none⟩)) (v := .func (.func 58) #[] #[.pointer (some ⟨b_r_00, 0, none⟩)]) rfl (ldb_sc Sc106 (H.blk (k := 2) rfl) rfl)) ?_
  refine d_q rfl (fun w' H => x_mv (v := .pointer (some ⟨b_w_, 0, none⟩)) rfl) ?_
  refine d_q rfl (fun w' H => x_ld (p := .pointer (some ⟨b_3, 0, none⟩)) (v := .agg #[I ((w__River_Floods.getD s default).spring), u16z]) rfl (ldb_ag (ds := [I ((w__River_Floods.getD s default).spring), u16z]) Ag85 Sz85 (H.blk (k := 0) rfl) rfl rfl)) ?_
  refine d_q rfl (fun w' H => x_ld (p := .pointer (some ⟨b_1, 0, none⟩)) (v := .agg (encB p).toArray) rfl (ldArrA Ag96 Sz96 hl_p (H.blk (k := 3) rfl))) ?_
  refine d_l rfl ?_
  obtain ⟨r23z, hx22z, hM⟩ := M.e_bind hM
  refine s_call cf48 [.pointer (some ⟨b_w_, 0, none⟩), .agg #[I ((w__River_Floods.getD s default).spring), u16z], .agg (encB p).toArray] rfl (zbl w__River_Down w__River_Travel w__River_Springs w__River_Towns w__River_Delay_Lo w__River_Delay_Hi w__River_Floods (w__River_Floods.getD s default) p (hC_w__River_Down.app _) hs_w__River_Down (hC_w__River_Travel.app _) hs_w__River_Travel (hC_w__River_Springs.app _) hs_w__River_Springs (hC_w__River_Towns.app _) hs_w__River_Towns (hC_w__River_Floods.app _) hs_w__River_Floods (h_b_w_.app _) (hC_w__River_Floods.app _) hs17z hl_p hx22z _ (H.gt 4)) ?_
  rintro vq w24z ⟨r0, r1, r2, hr25z, hvq, H2_⟩
  subst hr25z
  subst vq
  try dsimp only at hM
  replace H := H.bk H2_
  clear H2_
  refine s_nil ⟨(H.pk [0, 1, 2, 3]), ?_⟩
  refine d_l rfl ?_
  obtain ⟨r27z, hx26z, hM⟩ := M.e_bind hM
  refine s_callv (f := 58) rfl cf58 [.agg #[I r0, I r1, B r2]] rfl (zdp (⟨(r0 : Int), (r1 : Int), r2⟩ : Rpt) r_00202 r_00212 (hC_r_00202.app _) hs_r_00202 (h_b_r_0020.app _) (hC_r_00212.app _) hs_r_00212 (h_b_r_0021.app _) (h_b_r_00.app _) hx26z _ (H.gt 4)) ?_
  rintro vq w28z ⟨r3, hr29z, hvq, H2_⟩
  subst hr29z
  subst vq
  try dsimp only at hM
  replace H := H.bk H2_
  clear H2_
  refine s_nil ⟨(H.pk [0, 1, 2, 3]), ?_⟩
  refine d_nil ?_
  refine W.cond r3 rfl (fun c30z => ?_) (fun c30z => ?_)
  ·replace hM := M.e_t hM c30z
   refine W.region rfl ?_
   refine s_val (x_mv (v := v_l) rfl) ?_
   refine s_val (x_mv (v := I (s : Int)) rfl) ?_
   refine t_bs (α := Int) T22 [I (s : Int)] [(s : Int)] H rfl (.cons rfl (Flat.rep_enc _ (s : Int)) <| .nil) rfl rfl rfl ?_
   intro v31z w32z H
   obtain ⟨sd33z, hM⟩ := M.e_grd hM
   simp only [Bool.and_eq_true, decide_eq_true_eq] at sd33z
   refine t_app (α := Int) (k := 2) (l := l) (l2 := [(s : Int)]) (l' := l ++ ([(s : Int)])) (vy := v31z) T22 rfl H rfl rfl rfl (ownSl (H.get (k := 0) rfl)) (ownLe _ (H.get (k := 0) rfl)) (rfl) (by first | omega | (simp only [List.length_nil] at *; omega)) ?_
   intro v34z w35z H
   replace H := H.nf
   refine s_val (x_as (v := v34z) rfl) ?_
   refine s_nil ?_
   replace H := H.pk [2, 3, 4]
   refine W.region rfl ?_
   refine s_val (x_ari (a := (s : Int)) (b := 1) (r := (s : Int) + 1) rfl rfl rfl (by omega)) ?_
   refine s_val (x_mv (v := I ((s : Int) + 1)) rfl) ?_
   refine s_nil ?_
   exact ⟨m10z, lt11z, s + 1, l ++ ([(s : Int)]), v34z, _, upds_of _ _ ⟨rfl, rfl, rfl, rfl, rfl, rfl, rfl, trivial⟩, M.e_inl hM hN13z, H⟩
  replace hM := M.e_f hM c30z
  refine W.skip ?_
  refine W.region rfl ?_
  refine s_val (x_ari (a := (s : Int)) (b := 1) (r := (s : Int) + 1) rfl rfl rfl (by omega)) ?_
  refine s_val (x_mv (v := I ((s : Int) + 1)) rfl) ?_
  refine s_nil ?_
  exact ⟨m10z, lt11z, s + 1, l, v_l, _, upds_of _ _ ⟨rfl, rfl, rfl, rfl, rfl, rfl, rfl, trivial⟩, M.e_inl hM hN13z, (H.pk [1, 2, 3])⟩
 replace hM := M.e_f hM c14z
 simp only [decide_eq_true_eq, decide_eq_false_iff_not, beq_iff_eq, bne_iff_ne, beq_eq_false_iff_ne, bne_eq_false_iff_eq, ne_eq, Decidable.not_not] at c14z
 refine W.exit ?_
 have hX36z := M.e_inr hM hN13z
 subst hX36z
 replace hM := hk6z
 try dsimp only at hM
 replace H := H.pk [0]
 refine W.seq ?_
 refine W.region rfl ?_
 refine s_val (x_mv (v := v_l) rfl) ?_
 refine s_val (x_as (v := v_l) rfl) ?_
 refine s_nil ?_
 refine W.ret ?_
 have hr_ := M.e_pure hM
 exact ⟨_, resE_tmp rfl, ⟨l, v_l, hr_, rfl, H⟩⟩

end Go.Proofs.YtbaehghammbjdaaGreat
end
section
set_option maxRecDepth 100000
set_option maxHeartbeats 16000000
namespace Go.Proofs.YtbaehghammbjdaaGreat
open Go Go.Nm
def zaA (r__Down : List Int) (r__Travel : List Span) (r__Springs : List Int) (r__Towns : List Town) (r__Delay_Lo : Int) (r__Delay_Hi : Int) (r__Floods : List Flood) (watches : List Int) (thresholds : List Int) : M ((List Int) × (List Int) × Int) :=
  M.bind (zbW r__Down r__Travel r__Springs r__Towns r__Delay_Lo r__Delay_Hi r__Floods watches) fun x_ => match x_ with
  | (.inl (r1, r2)) => (
  bif r2 != 0 then (
  M.pure (([]), ([]), r2))
  else (
  M.fail))
  | (.inr (r04, r05, r12, r22)) => (
  bif r22 != 0 then (
  M.fail)
  else (
  bif (thresholds.length : Int) != (watches.length : Int) then (
  M.pure (([]), ([]), 2))
  else (
  M.bind (zaE thresholds (fun xqz => zcj xqz)) fun r3 =>
  bif !r3 then (
  M.pure (([]), ([]), 4))
  else (
  M.bind (zcq r__Down r__Travel r__Springs r__Towns r04 r05 r__Floods r12 watches thresholds) fun r4 =>
  M.bind (zcY r__Down r__Travel r__Springs r__Towns r04 r05 r__Floods r12 watches thresholds) fun r5 =>
  M.pure (r4, r5, 0)))))
theorem zaZ {R : List Chunk} {C_r__Down : Cells} {v_r__Down : Value} {C_r__Travel : Cells} {v_r__Travel : Value} {C_r__Springs : Cells} {v_r__Springs : Value} {C_r__Towns : Cells} {v_r__Towns : Value} {C_r__Floods : Cells} {v_r__Floods : Value} {C_watches : Cells} {v_watches : Value} {C_thresholds : Cells} {v_thresholds : Value} (r__Down : List Int) (r__Travel : List Span) (r__Springs : List Int) (r__Towns : List Town) (r__Delay_Lo : Int) (r__Delay_Hi : Int) (r__Floods : List Flood) (watches : List Int) (thresholds : List Int) (hC_r__Down : Reads R C_r__Down) (hs_r__Down : Sl C_r__Down v_r__Down r__Down) (hC_r__Travel : Reads R C_r__Travel) (hs_r__Travel : Sl C_r__Travel v_r__Travel r__Travel) (hC_r__Springs : Reads R C_r__Springs) (hs_r__Springs : Sl C_r__Springs v_r__Springs r__Springs) (hC_r__Towns : Reads R C_r__Towns) (hs_r__Towns : Sl C_r__Towns v_r__Towns r__Towns) (hC_r__Floods : Reads R C_r__Floods) (hs_r__Floods : Sl C_r__Floods v_r__Floods r__Floods) (hC_watches : Reads R C_watches) (hs_watches : Sl C_watches v_watches watches) (hC_thresholds : Reads R C_thresholds) (hs_thresholds : Sl C_thresholds v_thresholds thresholds) {r : ((List Int) × (List Int) × Int)} (hM : (zaA r__Down r__Travel r__Springs r__Towns r__Delay_Lo r__Delay_Hi r__Floods watches thresholds).Ends r) (w : World) (H : St w w [] R) : Ret Tryz.prog 16 #[.agg #[v_r__Down, v_r__Travel, v_r__Springs, v_r__Towns, I r__Delay_Lo, I r__Delay_Hi, v_r__Floods], v_watches, v_thresholds] w fun v w' => ∃ (y0 : List Int) (y1 : List Int) (y2 : Int) (u0 : Value) (u1 : Value), (y0, y1, y2) = r /\ v = .tuple #[u0, u1, I y2] /\ St w w' [cOwn (α := Int) 3 u0 y0, cOwn (α := Int) 3 u1 y1] R := by
 refine ret_of_W Tryz.func16 rfl rfl rfl ?_
 refine W.seq ?_
 refine W.region rfl ?_
 refine t_box (v := .agg #[v_r__Down, v_r__Travel, v_r__Springs, v_r__Towns, I r__Delay_Lo, I r__Delay_Hi, v_r__Floods]) (cs := [v_r__Down, v_r__Travel, v_r__Springs, v_r__Towns, I r__Delay_Lo, I r__Delay_Hi, v_r__Floods]) H rfl rfl ?_
 intro b_1 w1z H
 refine t_box (v := v_watches) (cs := [v_watches]) H rfl (Sl.cells hs_watches) ?_
 intro b_2 w2z H
 refine t_box (v := v_thresholds) (cs := [v_thresholds]) H rfl (Sl.cells hs_thresholds) ?_
 intro b_3 w3z H
 refine s_val (x_as (v := .slice none 0 0) rfl) ?_
 refine s_val (x_as (v := .slice none 0 0) rfl) ?_
 refine s_val (x_as (v := I 0) rfl) ?_
 refine s_nil ?_
 refine W.seq ?_
 refine W.region rfl ?_
 refine s_val (x_ld (p := .pointer (some ⟨b_1, 0, none⟩)) (v := .agg #[v_r__Down, v_r__Travel, v_r__Springs, v_r__Towns, I r__Delay_Lo, I r__Delay_Hi, v_r__Floods]) rfl (ldb_ag (ds := [v_r__Down, v_r__Travel, v_r__Springs, v_r__Towns, I r__Delay_Lo, I r__Delay_Hi, v_r__Floods]) Ag29 Sz29 (H.blk (k := 2) rfl) rfl rfl)) ?_
 refine s_val (x_ld (p := .pointer (some ⟨b_2, 0, none⟩)) (v := v_watches) rfl (ldb_sc Sc22 (H.blk (k := 1) rfl) rfl)) ?_
 obtain ⟨r5z, hx4z, hM⟩ := M.e_bind hM
 refine s_call cf46 [.agg #[v_r__Down, v_r__Travel, v_r__Springs, v_r__Towns, I r__Delay_Lo, I r__Delay_Hi, v_r__Floods], v_watches] rfl (zcA r__Down r__Travel r__Springs r__Towns r__Delay_Lo r__Delay_Hi r__Floods watches (hC_r__Down.app _) hs_r__Down (hC_r__Travel.app _) hs_r__Travel (hC_r__Springs.app _) hs_r__Springs (hC_r__Towns.app _) hs_r__Towns (hC_r__Floods.app _) hs_r__Floods (hC_watches.app _) hs_watches hx4z _ (H.gt 3)) ?_
 rintro vq w6z (⟨r1, r2, hr7z, hvq, H2_, hf8z⟩ | ⟨r04, r05, r12, r22, nb0_4, nb1_5, Bs2_6, hr9z, hvq, H2_, hf10z⟩)
 ·subst hr7z
  subst vq
  try dsimp only at hM
  replace H := H.bk H2_
  clear H2_
  refine s_val (x_mv (v := .tuple #[.pointer none, .agg (encB r1).toArray, I r2]) rfl) ?_
  refine s_val (x_ext (vs := [.pointer none, .agg (encB r1).toArray, I r2]) (v := .pointer none) rfl rfl) ?_
  refine s_val (x_ext (vs := [.pointer none, .agg (encB r1).toArray, I r2]) (v := .agg (encB r1).toArray) rfl rfl) ?_
  refine s_val (x_ext (vs := [.pointer none, .agg (encB r1).toArray, I r2]) (v := I r2) rfl rfl) ?_
  refine t_alloc (cs := encB (List.replicate 12 false)) H Al96 rfl ?_
  intro b_7 w11z H
  have hl_b_7 : (List.replicate 12 false).length = 12 := by simp
  refine s_val (x_as (v := .pointer none) rfl) ?_
  refine t_stArrA (k := 0) (b := b_7) (l := List.replicate 12 false) (l' := r1) (L' := [cBlk b_7 (encB r1) 96, cBlk b_3 [v_thresholds] 22, cBlk b_2 [v_watches] 22, cBlk b_1 [v_r__Down, v_r__Travel, v_r__Springs, v_r__Towns, I r__Delay_Lo, I r__Delay_Hi, v_r__Floods] 29]) H rfl rfl rfl Sz96 hl_b_7 hf8z rfl ?_
  intro w12z H
  refine s_val (x_as (v := I r2) rfl) ?_
  refine s_nil ?_
  refine W.seq ?_
  refine W.block ?_
  refine W.seq ?_
  refine W.region rfl ?_
  refine s_val (x_mv (v := I r2) rfl) ?_
  refine s_val (x_cmp (kd := .i64) (a := r2) (b := 0) (r := r2 != 0) rfl rfl rfl) ?_
  refine s_val (x_as (v := B (r2 != 0)) rfl) ?_
  refine s_nil ?_
  refine W.cond (r2 != 0) rfl (fun c13z => ?_) (fun c13z => ?_)
  ·replace hM := M.e_t hM c13z
   simp only [decide_eq_true_eq, decide_eq_false_iff_not, beq_iff_eq, bne_iff_ne, beq_eq_false_iff_ne, bne_eq_false_iff_eq, ne_eq, Decidable.not_not] at c13z
   refine W.seq ?_
   refine W.region rfl ?_
   refine s_val (x_mv (v := I r2) rfl) ?_
   refine s_val (x_as (v := .slice none 0 0) rfl) ?_
   refine s_val (x_as (v := .slice none 0 0) rfl) ?_
   refine s_val (x_as (v := I r2) rfl) ?_
   refine s_nil ?_
   replace H := H.pk []
   refine W.ret ?_
   have hr_ := M.e_pure hM
   replace H := H.nilOwn (α := Int) 3
   replace H := H.nilOwn (α := Int) 3
   exact ⟨_, resE_tmp3 rfl, ⟨([]), ([]), r2, (.slice none 0 0), (.slice none 0 0), hr_, rfl, (H.pk [1, 0])⟩⟩
  replace hM := M.e_f hM c13z
  exact (M.e_fail hM).elim
 subst hr9z
 subst vq
 try dsimp only at hM
 replace H := H.bk H2_
 clear H2_
 refine s_val (x_mv (v := .tuple #[.pointer (some ⟨nb0_4, 0, none⟩), .agg (encB r12).toArray, I r22]) rfl) ?_
 refine s_val (x_ext (vs := [.pointer (some ⟨nb0_4, 0, none⟩), .agg (encB r12).toArray, I r22]) (v := .pointer (some ⟨nb0_4, 0, none⟩)) rfl rfl) ?_
 refine s_val (x_ext (vs := [.pointer (some ⟨nb0_4, 0, none⟩), .agg (encB r12).toArray, I r22]) (v := .agg (encB r12).toArray) rfl rfl) ?_
 refine s_val (x_ext (vs := [.pointer (some ⟨nb0_4, 0, none⟩), .agg (encB r12).toArray, I r22]) (v := I r22) rfl rfl) ?_
 refine t_alloc (cs := encB (List.replicate 12 false)) H Al96 rfl ?_
 intro b_7 w14z H
 have hl_b_7 : (List.replicate 12 false).length = 12 := by simp
 refine s_val (x_as (v := .pointer (some ⟨nb0_4, 0, none⟩)) rfl) ?_
 refine t_stArrA (k := 0) (b := b_7) (l := List.replicate 12 false) (l' := r12) (L' := [cBlk b_7 (encB r12) 96, cBlk nb0_4 [v_r__Down, v_r__Travel, v_r__Springs, v_r__Towns, I r04, I r05, v_r__Floods, .map (some nb1_5)] 111, cMem encDm nb1_5 Bs2_6 (zaa r__Down r__Travel r__Springs r__Towns r04 r05 r__Floods), cBlk b_3 [v_thresholds] 22, cBlk b_2 [v_watches] 22, cBlk b_1 [v_r__Down, v_r__Travel, v_r__Springs, v_r__Towns, I r__Delay_Lo, I r__Delay_Hi, v_r__Floods] 29]) H rfl rfl rfl Sz96 hl_b_7 hf10z rfl ?_
 intro w15z H
 refine s_val (x_as (v := I r22) rfl) ?_
 refine s_nil ?_
 refine W.seq ?_
 refine W.block ?_
 refine W.seq ?_
 refine W.region rfl ?_
 refine s_val (x_mv (v := I r22) rfl) ?_
 refine s_val (x_cmp (kd := .i64) (a := r22) (b := 0) (r := r22 != 0) rfl rfl rfl) ?_
 refine s_val (x_as (v := B (r22 != 0)) rfl) ?_
 refine s_nil ?_
 refine W.cond (r22 != 0) rfl (fun c16z => ?_) (fun c16z => ?_)
 ·replace hM := M.e_t hM c16z
  exact (M.e_fail hM).elim
 replace hM := M.e_f hM c16z
 simp only [decide_eq_true_eq, decide_eq_false_iff_not, beq_iff_eq, bne_iff_ne, beq_eq_false_iff_ne, bne_eq_false_iff_eq, ne_eq, Decidable.not_not] at c16z
 refine W.seq ?_
 refine W.region rfl ?_
 refine s_val (x_ld (p := .pointer (some ⟨b_3, 0, none⟩)) (v := v_thresholds) rfl (ldb_sc Sc22 (H.blk (k := 3) rfl) rfl)) ?_
 have hl17z := (hs_thresholds).len_le
 refine s_val (x_lenS T22.und rfl hs_thresholds) ?_
 refine s_val (x_ld (p := .pointer (some ⟨b_2, 0, none⟩)) (v := v_watches) rfl (ldb_sc Sc22 (H.blk (k := 4) rfl) rfl)) ?_
 have hl18z := (hs_watches).len_le
 refine s_val (x_lenS T22.und rfl hs_watches) ?_
 refine s_val (x_cmp (kd := .i64) (a := (thresholds.length : Int)) (b := (watches.length : Int)) (r := (thresholds.length : Int) != (watches.length : Int)) rfl rfl rfl) ?_
 refine s_val (x_as (v := B ((thresholds.length : Int) != (watches.length : Int))) rfl) ?_
 refine s_nil ?_
 refine W.cond ((thresholds.length : Int) != (watches.length : Int)) rfl (fun c19z => ?_) (fun c19z => ?_)
 ·replace hM := M.e_t hM c19z
  simp only [decide_eq_true_eq, decide_eq_false_iff_not, beq_iff_eq, bne_iff_ne, beq_eq_false_iff_ne, bne_eq_false_iff_eq, ne_eq, Decidable.not_not] at c19z
  refine W.seq ?_
  refine W.region rfl ?_
  refine s_val (x_as (v := .slice none 0 0) rfl) ?_
  refine s_val (x_as (v := .slice none 0 0) rfl) ?_
  refine s_val (x_as (v := I 2) rfl) ?_
  refine s_nil ?_
  replace H := H.pk []
  refine W.ret ?_
  have hr_ := M.e_pure hM
  replace H := H.nilOwn (α := Int) 3
  replace H := H.nilOwn (α := Int) 3
  exact ⟨_, resE_tmp3 rfl, ⟨([]), ([]), 2, (.slice none 0 0), (.slice none 0 0), hr_, rfl, (H.pk [1, 0])⟩⟩
 replace hM := M.e_f hM c19z
 simp only [decide_eq_true_eq, decide_eq_false_iff_not, beq_iff_eq, bne_iff_ne, beq_eq_false_iff_ne, bne_eq_false_iff_eq, ne_eq, Decidable.not_not] at c19z
 refine W.seq ?_
 refine W.region rfl ?_
 refine s_val (x_ld (p := .pointer (some ⟨b_3, 0, none⟩)) (v := v_thresholds) rfl (ldb_sc Sc22 (H.blk (k := 3) rfl) rfl)) ?_
 obtain ⟨r21z, hx20z, hM⟩ := M.e_bind hM
 refine s_call cf53 [v_thresholds, .func (.func 54) #[] #[]] rfl (zcU thresholds (fun xqz => zcj xqz) (hC_thresholds.app _) hs_thresholds ⟨54, [], rfl, cf54, fun wqz Lqz Cqz vqz xqz bqz hsqz hCqz hAqz hpqz => by obtain rfl := Arg.int hAqz; exact (zdt xqz hpqz wqz (St.refl hsqz)).mono fun vqz wqz ⟨yqz, hrqz, hvqz, Hqz⟩ => by subst hrqz; exact ⟨hvqz, Hqz⟩⟩ hx20z _ (H.gt 6)) ?_
 rintro vq w22z ⟨r3, hr23z, hvq, H2_⟩
 subst hr23z
 subst vq
 try dsimp only at hM
 replace H := H.bk H2_
 clear H2_
 refine s_val (x_not (b := r3) rfl) ?_
 refine s_val (x_as (v := B (!r3)) rfl) ?_
 refine s_nil ?_
 refine W.cond (!r3) rfl (fun c24z => ?_) (fun c24z => ?_)
 ·replace hM := M.e_t hM c24z
  refine W.seq ?_
  refine W.region rfl ?_
  refine s_val (x_as (v := .slice none 0 0) rfl) ?_
  refine s_val (x_as (v := .slice none 0 0) rfl) ?_
  refine s_val (x_as (v := I 4) rfl) ?_
  refine s_nil ?_
  replace H := H.pk []
  refine W.ret ?_
  have hr_ := M.e_pure hM
  replace H := H.nilOwn (α := Int) 3
  replace H := H.nilOwn (α := Int) 3
  exact ⟨_, resE_tmp3 rfl, ⟨([]), ([]), 4, (.slice none 0 0), (.slice none 0 0), hr_, rfl, (H.pk [1, 0])⟩⟩
 replace hM := M.e_f hM c24z
 refine W.skip ?_
 refine W.seq ?_
 refine W.region rfl ?_
 refine s_val (x_mf (fs := []) (cs := [.pointer (some ⟨b_2, 0, none⟩), .pointer (some ⟨b_3, 0, none⟩)]) rfl rfl) ?_
 refine t_alloc (cs := [.nilFunc]) H Al106 rfl ?_
 intro b_8 w25z H
 refine t_sw 0 0 [.func (.func 55) #[] #[.pointer (some ⟨b_2, 0, none⟩), .pointer (some ⟨b_3, 0, none⟩)]] (.func (.func 55) #[] #[.pointer (some ⟨b_2, 0, none⟩), .pointer (some ⟨b_3, 0, none⟩)]) H rfl rfl Sz106 rfl rfl rfl rfl ?_
 intro w26z H
 refine s_nil ?_
 refine W.seq ?_
 refine W.region rfl ?_
 refine s_val (x_mv (v := .pointer (some ⟨nb0_4, 0, none⟩)) rfl) ?_
 refine s_val (x_ld (p := .pointer (some ⟨b_7, 0, none⟩)) (v := .agg (encB r12).toArray) rfl (ldArrA Ag96 Sz96 hf10z (H.blk (k := 1) rfl))) ?_
 refine s_val (x_mf (fs := []) (cs := [.pointer (some ⟨b_8, 0, none⟩)]) rfl rfl) ?_
 refine s_val (x_bld (ps := [(0, .func (.func 57) #[] #[.pointer (some ⟨b_8, 0, none⟩)])]) (zs := [.nilFunc]) (L' := [.func (.func 57) #[] #[.pointer (some ⟨b_8, 0, none⟩)]]) rfl Tryz.underlying108 Al108 rfl (Bd108 Tryz.underlying108) (.cons (cs := [.func (.func 57) #[] #[.pointer (some ⟨b_8, 0, none⟩)]]) rfl rfl rfl rfl rfl <| .nil)) ?_
 obtain ⟨r28z, hx27z, hM⟩ := M.e_bind hM
 refine s_call cf51 [.pointer (some ⟨nb0_4, 0, none⟩), .agg (encB r12).toArray, .agg #[.func (.func 57) #[] #[.pointer (some ⟨b_8, 0, none⟩)]]] rfl (zdy r__Down r__Travel r__Springs r__Towns r04 r05 r__Floods r12 watches thresholds (hC_r__Down.app _) hs_r__Down (hC_r__Travel.app _) hs_r__Travel (hC_r__Springs.app _) hs_r__Springs (hC_r__Towns.app _) hs_r__Towns (hC_r__Floods.app _) hs_r__Floods (Has.here (k := 2) rfl) hf10z (hC_watches.app _) hs_watches (Has.here (k := 5) rfl) (hC_thresholds.app _) hs_thresholds (Has.here (k := 4) rfl) (Has.here (k := 0) rfl) hx27z _ (H.gt 7)) ?_
 rintro vq w29z ⟨r4, u0_9, hr30z, hvq, H2_⟩
 subst hr30z
 subst vq
 try dsimp only at hM
 replace H := H.bk H2_
 clear H2_
 refine s_val (x_as (v := u0_9) rfl) ?_
 refine s_nil ?_
 refine W.seq ?_
 refine W.region rfl ?_
 refine s_val (x_mv (v := .pointer (some ⟨nb0_4, 0, none⟩)) rfl) ?_
 refine s_val (x_ld (p := .pointer (some ⟨b_7, 0, none⟩)) (v := .agg (encB r12).toArray) rfl (ldArrA Ag96 Sz96 hf10z (H.blk (k := 2) rfl))) ?_
 refine s_val (x_mf (fs := []) (cs := [.pointer (some ⟨b_8, 0, none⟩)]) rfl rfl) ?_
 refine s_val (x_bld (ps := [(0, .func (.func 58) #[] #[.pointer (some ⟨b_8, 0, none⟩)])]) (zs := [.nilFunc]) (L' := [.func (.func 58) #[] #[.pointer (some ⟨b_8, 0, none⟩)]]) rfl Tryz.underlying108 Al108 rfl (Bd108 Tryz.underlying108) (.cons (cs := [.func (.func 58) #[] #[.pointer (some ⟨b_8, 0, none⟩)]]) rfl rfl rfl rfl rfl <| .nil)) ?_
 obtain ⟨r32z, hx31z, hM⟩ := M.e_bind hM
 refine s_call cf51 [.pointer (some ⟨nb0_4, 0, none⟩), .agg (encB r12).toArray, .agg #[.func (.func 58) #[] #[.pointer (some ⟨b_8, 0, none⟩)]]] rfl (zds r__Down r__Travel r__Springs r__Towns r04 r05 r__Floods r12 watches thresholds (hC_r__Down.app _) hs_r__Down (hC_r__Travel.app _) hs_r__Travel (hC_r__Springs.app _) hs_r__Springs (hC_r__Towns.app _) hs_r__Towns (hC_r__Floods.app _) hs_r__Floods (Has.here (k := 3) rfl) hf10z (hC_watches.app _) hs_watches (Has.here (k := 6) rfl) (hC_thresholds.app _) hs_thresholds (Has.here (k := 5) rfl) (Has.here (k := 1) rfl) hx31z _ (H.gt 8)) ?_
 rintro vq w33z ⟨r5, u0_10, hr34z, hvq, H2_⟩
 subst hr34z
 subst vq
 try dsimp only at hM
 replace H := H.bk H2_
 clear H2_
 refine s_val (x_as (v := u0_10) rfl) ?_
 refine s_nil ?_
 replace H := H.pk [0, 1]
 refine W.seq ?_
 refine W.region rfl ?_
 refine s_val (x_mv (v := u0_9) rfl) ?_
 refine s_val (x_mv (v := u0_10) rfl) ?_
 refine s_val (x_as (v := u0_9) rfl) ?_
 refine s_val (x_as (v := u0_10) rfl) ?_
 refine s_val (x_as (v := I 0) rfl) ?_
 refine s_nil ?_
 refine W.ret ?_
 have hr_ := M.e_pure hM
 exact ⟨_, resE_tmp3 rfl, ⟨r4, r5, 0, u0_9, u0_10, hr_, rfl, (H.pk [1, 0])⟩⟩

def zbL : M Bool :=
  M.bind (zae 4) fun (r0, r1, r2, r3, r4, r5, r6) =>
  M.bind (zcp r0 r1 r2 r3 r4 r5 r6 (⟨(0 : Int), (0 : Int)⟩ : Dem)) fun (r02, r12) =>
  M.bind (zae 4) fun (r03, r13, r22, r32, r42, r52, r62) =>
  M.bind (zcp r03 r13 r22 r32 r42 r52 r62 (⟨(1 : Int), (0 : Int)⟩ : Dem)) fun (r04, r14) =>
  M.bind (zae 4) fun (r05, r15, r23, r33, r43, r53, r63) =>
  M.bind (zby r05 r15 r23 r33 r43 r53 r63) fun (r06, r16) =>
  M.bind (zae 3) fun (r07, r17, r24, r34, r44, r54, r64) =>
  M.bind (zby r07 r17 r24 r34 r44 r54 r64) fun (r08, r18) =>
  M.bind (zae 1) fun (r09, r19, r25, r35, r45, r55, r65) =>
  M.bind (zby r09 r19 r25 r35 r45 r55 r65) fun (r010, r110) =>
  M.bind (zae 4) fun (r011, r111, r26, r36, r46, r56, r66) =>
  M.bind (zaw r011 r111 r26 r36 r46 r56 r66 0 0) fun (r00, r01, r112) =>
  M.bind (M.opt (!((((((r12 != 0) || (r14 != 0)) || (r16 != 6)) || (r18 != 0)) || (r110 != 0)) || (r112 != 0))) (zad r02 ([(0 : Int)])) false) fun r7 =>
  M.bind (M.opt (!(((((((((r12 != 0) || (r14 != 0)) || (r16 != 6)) || (r18 != 0)) || (r110 != 0)) || (r112 != 0)) || (!r7)) || (decide (0 < (r04.length : Int)))) || ((r08.length : Int) != 2))) (zad r010 ([(2 : Int)])) false) fun r8 =>
  bif !((((((((((r12 != 0) || (r14 != 0)) || (r16 != 6)) || (r18 != 0)) || (r110 != 0)) || (r112 != 0)) || (!r7)) || (decide (0 < (r04.length : Int)))) || ((r08.length : Int) != 2)) || (!r8)) then (
  M.bind (za7 6 10) fun (r012, r113) =>
  bif (((((((((((r12 != 0) || (r14 != 0)) || (r16 != 6)) || (r18 != 0)) || (r110 != 0)) || (r112 != 0)) || (!r7)) || (decide (0 < (r04.length : Int)))) || ((r08.length : Int) != 2)) || (!r8)) || (!(decide ((⟨(r00 : Int), (r01 : Int)⟩ : Span) = (⟨(r012 : Int), (r113 : Int)⟩ : Span))))) then (
  M.pure false)
  else (
  M.bind (zae 1) fun (r013, r114, r27, r37, r47, r57, r67) =>
  M.bind (zcn r013 r114 r27 r37 r47 r57 r67 ([(2 : Int)])) fun (r014, r115, r28) =>
  M.bind (zae 1) fun (r015, r116, r29, r38, r48, r58, r68) =>
  M.bind (zaA r015 r116 r29 r38 r48 r58 r68 ([(2 : Int)]) ([(250 : Int)])) fun (r016, r117, r210) =>
  M.bind (zae 1) fun (r017, r118, r211, r39, r49, r59, r69) =>
  M.bind (zaA r017 r118 r211 r39 r49 r59 r69 ([(2 : Int)]) ([(240 : Int)])) fun (r018, r119, r212) =>
  M.bind (zae 1) fun (r019, r120, r213, r310, r410, r510, r610) =>
  M.bind (zaA r019 r120 r213 r310 r410 r510 r610 ([(2 : Int)]) ([(251 : Int)])) fun (r020, r121, r214) =>
  M.bind (M.opt ((((r28 == 0) && (r210 == 0)) && (r212 == 0)) && (r214 == 0)) (zad r014 ([(250 : Int)])) false) fun r9 =>
  M.bind (M.opt (((((r28 == 0) && (r210 == 0)) && (r212 == 0)) && (r214 == 0)) && r9) (zad r115 ([(0 : Int)])) false) fun r10 =>
  M.grd ((!((((((r28 == 0) && (r210 == 0)) && (r212 == 0)) && (r214 == 0)) && r9) && r10) || (decide ((-9223372036854775808 : Int) <= ((r016.length : Int) + (r117.length : Int))) && decide (((r016.length : Int) + (r117.length : Int)) <= (9223372036854775807 : Int))))) <|
  M.bind (M.opt (((((((r28 == 0) && (r210 == 0)) && (r212 == 0)) && (r214 == 0)) && r9) && r10) && (((r016.length : Int) + (r117.length : Int)) == 0)) (zad r119 ([(1 : Int)])) false) fun r11 =>
  M.bind (M.opt ((((((((r28 == 0) && (r210 == 0)) && (r212 == 0)) && (r214 == 0)) && r9) && r10) && (((r016.length : Int) + (r117.length : Int)) == 0)) && r11) (zad r020 ([(0 : Int)])) false) fun r20 =>
  M.pure (((((((((r28 == 0) && (r210 == 0)) && (r212 == 0)) && (r214 == 0)) && r9) && r10) && (((r016.length : Int) + (r117.length : Int)) == 0)) && r11) && r20)))
  else (
  bif (((((((((((r12 != 0) || (r14 != 0)) || (r16 != 6)) || (r18 != 0)) || (r110 != 0)) || (r112 != 0)) || (!r7)) || (decide (0 < (r04.length : Int)))) || ((r08.length : Int) != 2)) || (!r8)) || (!(decide ((⟨(r00 : Int), (r01 : Int)⟩ : Span) = (⟨(0 : Int), (0 : Int)⟩ : Span))))) then (
  M.pure false)
  else (
  M.bind (zae 1) fun (r013, r114, r27, r37, r47, r57, r67) =>
  M.bind (zcn r013 r114 r27 r37 r47 r57 r67 ([(2 : Int)])) fun (r014, r115, r28) =>
  M.bind (zae 1) fun (r015, r116, r29, r38, r48, r58, r68) =>
  M.bind (zaA r015 r116 r29 r38 r48 r58 r68 ([(2 : Int)]) ([(250 : Int)])) fun (r016, r117, r210) =>
  M.bind (zae 1) fun (r017, r118, r211, r39, r49, r59, r69) =>
  M.bind (zaA r017 r118 r211 r39 r49 r59 r69 ([(2 : Int)]) ([(240 : Int)])) fun (r018, r119, r212) =>
  M.bind (zae 1) fun (r019, r120, r213, r310, r410, r510, r610) =>
  M.bind (zaA r019 r120 r213 r310 r410 r510 r610 ([(2 : Int)]) ([(251 : Int)])) fun (r020, r121, r214) =>
  M.bind (M.opt ((((r28 == 0) && (r210 == 0)) && (r212 == 0)) && (r214 == 0)) (zad r014 ([(250 : Int)])) false) fun r9 =>
  M.bind (M.opt (((((r28 == 0) && (r210 == 0)) && (r212 == 0)) && (r214 == 0)) && r9) (zad r115 ([(0 : Int)])) false) fun r10 =>
  M.grd ((!((((((r28 == 0) && (r210 == 0)) && (r212 == 0)) && (r214 == 0)) && r9) && r10) || (decide ((-9223372036854775808 : Int) <= ((r016.length : Int) + (r117.length : Int))) && decide (((r016.length : Int) + (r117.length : Int)) <= (9223372036854775807 : Int))))) <|
  M.bind (M.opt (((((((r28 == 0) && (r210 == 0)) && (r212 == 0)) && (r214 == 0)) && r9) && r10) && (((r016.length : Int) + (r117.length : Int)) == 0)) (zad r119 ([(1 : Int)])) false) fun r11 =>
  M.bind (M.opt ((((((((r28 == 0) && (r210 == 0)) && (r212 == 0)) && (r214 == 0)) && r9) && r10) && (((r016.length : Int) + (r117.length : Int)) == 0)) && r11) (zad r020 ([(0 : Int)])) false) fun r20 =>
  M.pure (((((((((r28 == 0) && (r210 == 0)) && (r212 == 0)) && (r214 == 0)) && r9) && r10) && (((r016.length : Int) + (r117.length : Int)) == 0)) && r11) && r20)))
theorem zcJ {R : List Chunk}    {r : Bool} (hM : (zbL).Ends r) (w : World) (H : St w w [] R) : Ret Tryz.prog 7 #[] w fun v w' => ∃ (y0 : Bool), y0 = r /\ v = B y0 /\ St w w' [] R := by
 refine ret_of_W Tryz.func7 rfl rfl rfl ?_
 refine W.seq ?_
 refine W.region rfl ?_
 refine s_val (x_as (v := B false) rfl) ?_
 refine s_nil ?_
 refine W.seq ?_
 refine W.region rfl ?_
 obtain ⟨r2z, hx1z, hM⟩ := M.e_bind hM
 refine s_call cf42 [I 4] rfl (zag 4 hx1z _ (H.gt 0)) ?_
 rintro vq w3z ⟨r0, r1, r2, r3, r4, r5, r6, u0_1, u1_2, u2_3, u3_4, u4_5, rr5_6, Bs6_7, hr4z, hvq, H2_, hf5z⟩
 subst hr4z
 subst vq
 try dsimp only at hM
 replace H := H.bk H2_
 clear H2_
 refine s_val (x_bld (ps := [(0, I 0)]) (zs := [I 0, I 0]) (L' := [I 0, I 0]) rfl Tryz.underlying61 Al61 rfl (Bd61 Tryz.underlying61) (.cons (cs := [I 0]) rfl rfl rfl rfl rfl <| .nil)) ?_
 obtain ⟨r7z, hx6z, hM⟩ := M.e_bind hM
 refine s_call cf32 [.agg #[u0_1, u1_2, u2_3, u3_4, I r4, I r5, u4_5], .agg #[I 0, I 0]] rfl (zcV r0 r1 r2 r3 r4 r5 r6 (⟨(0 : Int), (0 : Int)⟩ : Dem) (Reads.of (k := 0) rfl ownLe) (ownSl (H.get (k := 0) rfl)) (Reads.of (k := 1) rfl ownLe) (ownSl (H.get (k := 1) rfl)) (Reads.of (k := 2) rfl ownLe) (ownSl (H.get (k := 2) rfl)) (Reads.of (k := 3) rfl ownLe) (ownSl (H.get (k := 3) rfl)) (Reads.sup (Reads.of (k := 4) rfl ownLe) (Reads.of (k := 5) rfl roLe)) (rowSl rfl (H.get (k := 4) rfl) (roLe _ (H.get (k := 5) rfl)) hf5z) hx6z _ (H.gt 6)) ?_
 rintro vq w8z ⟨r02, r12, u0_8, hr9z, hvq, H2_⟩
 subst hr9z
 subst vq
 try dsimp only at hM
 replace H := H.bk H2_
 clear H2_
 refine s_val (x_mv (v := .tuple #[u0_8, I r12]) rfl) ?_
 refine s_val (x_ext (vs := [u0_8, I r12]) (v := u0_8) rfl rfl) ?_
 refine s_val (x_ext (vs := [u0_8, I r12]) (v := I r12) rfl rfl) ?_
 refine s_val (x_as (v := u0_8) rfl) ?_
 refine s_val (x_as (v := I r12) rfl) ?_
 refine s_nil ?_
 replace H := H.pk [0]
 refine W.seq ?_
 refine W.region rfl ?_
 obtain ⟨r11z, hx10z, hM⟩ := M.e_bind hM
 refine s_call cf42 [I 4] rfl (zag 4 hx10z _ (H.gt 1)) ?_
 rintro vq w12z ⟨r03, r13, r22, r32, r42, r52, r62, u0_9, u1_10, u2_11, u3_12, u4_13, rr5_14, Bs6_15, hr13z, hvq, H2_, hf14z⟩
 subst hr13z
 subst vq
 try dsimp only at hM
 replace H := H.bk H2_
 clear H2_
 refine s_val (x_bld (ps := [(0, I 1)]) (zs := [I 0, I 0]) (L' := [I 1, I 0]) rfl Tryz.underlying61 Al61 rfl (Bd61 Tryz.underlying61) (.cons (cs := [I 1]) rfl rfl rfl rfl rfl <| .nil)) ?_
 obtain ⟨r16z, hx15z, hM⟩ := M.e_bind hM
 refine s_call cf32 [.agg #[u0_9, u1_10, u2_11, u3_12, I r42, I r52, u4_13], .agg #[I 1, I 0]] rfl (zcV r03 r13 r22 r32 r42 r52 r62 (⟨(1 : Int), (0 : Int)⟩ : Dem) (Reads.of (k := 0) rfl ownLe) (ownSl (H.get (k := 0) rfl)) (Reads.of (k := 1) rfl ownLe) (ownSl (H.get (k := 1) rfl)) (Reads.of (k := 2) rfl ownLe) (ownSl (H.get (k := 2) rfl)) (Reads.of (k := 3) rfl ownLe) (ownSl (H.get (k := 3) rfl)) (Reads.sup (Reads.of (k := 4) rfl ownLe) (Reads.of (k := 5) rfl roLe)) (rowSl rfl (H.get (k := 4) rfl) (roLe _ (H.get (k := 5) rfl)) hf14z) hx15z _ (H.gt 7)) ?_
 rintro vq w17z ⟨r04, r14, u0_16, hr18z, hvq, H2_⟩
 subst hr18z
 subst vq
 try dsimp only at hM
 replace H := H.bk H2_
 clear H2_
 refine s_val (x_mv (v := .tuple #[u0_16, I r14]) rfl) ?_
 refine s_val (x_ext (vs := [u0_16, I r14]) (v := u0_16) rfl rfl) ?_
 refine s_val (x_ext (vs := [u0_16, I r14]) (v := I r14) rfl rfl) ?_
 refine s_val (x_as (v := u0_16) rfl) ?_
 refine s_val (x_as (v := I r14) rfl) ?_
 refine s_nil ?_
 replace H := H.pk [0, 7]
 refine W.seq ?_
 refine W.region rfl ?_
 obtain ⟨r20z, hx19z, hM⟩ := M.e_bind hM
 refine s_call cf42 [I 4] rfl (zag 4 hx19z _ (H.gt 2)) ?_
 rintro vq w21z ⟨r05, r15, r23, r33, r43, r53, r63, u0_17, u1_18, u2_19, u3_20, u4_21, rr5_22, Bs6_23, hr22z, hvq, H2_, hf23z⟩
 subst hr22z
 subst vq
 try dsimp only at hM
 replace H := H.bk H2_
 clear H2_
 obtain ⟨r25z, hx24z, hM⟩ := M.e_bind hM
 refine s_call cf36 [.agg #[u0_17, u1_18, u2_19, u3_20, I r43, I r53, u4_21]] rfl (zce r05 r15 r23 r33 r43 r53 r63 (Reads.of (k := 0) rfl ownLe) (ownSl (H.get (k := 0) rfl)) (Reads.of (k := 1) rfl ownLe) (ownSl (H.get (k := 1) rfl)) (Reads.of (k := 2) rfl ownLe) (ownSl (H.get (k := 2) rfl)) (Reads.of (k := 3) rfl ownLe) (ownSl (H.get (k := 3) rfl)) (Reads.sup (Reads.of (k := 4) rfl ownLe) (Reads.of (k := 5) rfl roLe)) (rowSl rfl (H.get (k := 4) rfl) (roLe _ (H.get (k := 5) rfl)) hf23z) hx24z _ (H.gt 8)) ?_
 rintro vq w26z ⟨r06, r16, u0_24, hr27z, hvq, H2_⟩
 subst hr27z
 subst vq
 try dsimp only at hM
 replace H := H.bk H2_
 clear H2_
 refine s_val (x_mv (v := .tuple #[u0_24, I r16]) rfl) ?_
 refine s_val (x_ext (vs := [u0_24, I r16]) (v := u0_24) rfl rfl) ?_
 refine s_val (x_ext (vs := [u0_24, I r16]) (v := I r16) rfl rfl) ?_
 refine s_val (x_as (v := u0_24) rfl) ?_
 refine s_val (x_as (v := I r16) rfl) ?_
 refine s_nil ?_
 replace H := H.pk [7, 8]
 refine W.seq ?_
 refine W.region rfl ?_
 obtain ⟨r29z, hx28z, hM⟩ := M.e_bind hM
 refine s_call cf42 [I 3] rfl (zag 3 hx28z _ (H.gt 2)) ?_
 rintro vq w30z ⟨r07, r17, r24, r34, r44, r54, r64, u0_25, u1_26, u2_27, u3_28, u4_29, rr5_30, Bs6_31, hr31z, hvq, H2_, hf32z⟩
 subst hr31z
 subst vq
 try dsimp only at hM
 replace H := H.bk H2_
 clear H2_
 obtain ⟨r34z, hx33z, hM⟩ := M.e_bind hM
 refine s_call cf36 [.agg #[u0_25, u1_26, u2_27, u3_28, I r44, I r54, u4_29]] rfl (zce r07 r17 r24 r34 r44 r54 r64 (Reads.of (k := 0) rfl ownLe) (ownSl (H.get (k := 0) rfl)) (Reads.of (k := 1) rfl ownLe) (ownSl (H.get (k := 1) rfl)) (Reads.of (k := 2) rfl ownLe) (ownSl (H.get (k := 2) rfl)) (Reads.of (k := 3) rfl ownLe) (ownSl (H.get (k := 3) rfl)) (Reads.sup (Reads.of (k := 4) rfl ownLe) (Reads.of (k := 5) rfl roLe)) (rowSl rfl (H.get (k := 4) rfl) (roLe _ (H.get (k := 5) rfl)) hf32z) hx33z _ (H.gt 8)) ?_
 rintro vq w35z ⟨r08, r18, u0_32, hr36z, hvq, H2_⟩
 subst hr36z
 subst vq
 try dsimp only at hM
 replace H := H.bk H2_
 clear H2_
 refine s_val (x_mv (v := .tuple #[u0_32, I r18]) rfl) ?_
 refine s_val (x_ext (vs := [u0_32, I r18]) (v := u0_32) rfl rfl) ?_
 refine s_val (x_ext (vs := [u0_32, I r18]) (v := I r18) rfl rfl) ?_
 refine s_val (x_as (v := u0_32) rfl) ?_
 refine s_val (x_as (v := I r18) rfl) ?_
 refine s_nil ?_
 replace H := H.pk [0, 7, 8]
 refine W.seq ?_
 refine W.region rfl ?_
 obtain ⟨r38z, hx37z, hM⟩ := M.e_bind hM
 refine s_call cf42 [I 1] rfl (zag 1 hx37z _ (H.gt 3)) ?_
 rintro vq w39z ⟨r09, r19, r25, r35, r45, r55, r65, u0_33, u1_34, u2_35, u3_36, u4_37, rr5_38, Bs6_39, hr40z, hvq, H2_, hf41z⟩
 subst hr40z
 subst vq
 try dsimp only at hM
 replace H := H.bk H2_
 clear H2_
 obtain ⟨r43z, hx42z, hM⟩ := M.e_bind hM
 refine s_call cf36 [.agg #[u0_33, u1_34, u2_35, u3_36, I r45, I r55, u4_37]] rfl (zce r09 r19 r25 r35 r45 r55 r65 (Reads.of (k := 0) rfl ownLe) (ownSl (H.get (k := 0) rfl)) (Reads.of (k := 1) rfl ownLe) (ownSl (H.get (k := 1) rfl)) (Reads.of (k := 2) rfl ownLe) (ownSl (H.get (k := 2) rfl)) (Reads.of (k := 3) rfl ownLe) (ownSl (H.get (k := 3) rfl)) (Reads.sup (Reads.of (k := 4) rfl ownLe) (Reads.of (k := 5) rfl roLe)) (rowSl rfl (H.get (k := 4) rfl) (roLe _ (H.get (k := 5) rfl)) hf41z) hx42z _ (H.gt 9)) ?_
 rintro vq w44z ⟨r010, r110, u0_40, hr45z, hvq, H2_⟩
 subst hr45z
 subst vq
 try dsimp only at hM
 replace H := H.bk H2_
 clear H2_
 refine s_val (x_mv (v := .tuple #[u0_40, I r110]) rfl) ?_
 refine s_val (x_ext (vs := [u0_40, I r110]) (v := u0_40) rfl rfl) ?_
 refine s_val (x_ext (vs := [u0_40, I r110]) (v := I r110) rfl rfl) ?_
 refine s_val (x_as (v := u0_40) rfl) ?_
 refine s_val (x_as (v := I r110) rfl) ?_
 refine s_nil ?_
 replace H := H.pk [0, 7, 8, 9]
 refine W.seq ?_
 refine W.region rfl ?_
 obtain ⟨r47z, hx46z, hM⟩ := M.e_bind hM
 refine s_call cf42 [I 4] rfl (zag 4 hx46z _ (H.gt 4)) ?_
 rintro vq w48z ⟨r011, r111, r26, r36, r46, r56, r66, u0_41, u1_42, u2_43, u3_44, u4_45, rr5_46, Bs6_47, hr49z, hvq, H2_, hf50z⟩
 subst hr49z
 subst vq
 try dsimp only at hM
 replace H := H.bk H2_
 clear H2_
 obtain ⟨r52z, hx51z, hM⟩ := M.e_bind hM
 refine s_call cf25 [.agg #[u0_41, u1_42, u2_43, u3_44, I r46, I r56, u4_45], I 0, I 0] rfl (zcT r011 r111 r26 r36 r46 r56 r66 0 0 (Reads.of (k := 0) rfl ownLe) (ownSl (H.get (k := 0) rfl)) (Reads.of (k := 1) rfl ownLe) (ownSl (H.get (k := 1) rfl)) (Reads.of (k := 2) rfl ownLe) (ownSl (H.get (k := 2) rfl)) (Reads.of (k := 3) rfl ownLe) (ownSl (H.get (k := 3) rfl)) (Reads.sup (Reads.of (k := 4) rfl ownLe) (Reads.of (k := 5) rfl roLe)) (rowSl rfl (H.get (k := 4) rfl) (roLe _ (H.get (k := 5) rfl)) hf50z) hx51z _ (H.gt 10)) ?_
 rintro vq w53z ⟨r00, r01, r112, hr54z, hvq, H2_⟩
 subst hr54z
 subst vq
 try dsimp only at hM
 replace H := H.bk H2_
 clear H2_
 refine s_val (x_mv (v := .tuple #[.agg #[I r00, I r01], I r112]) rfl) ?_
 refine s_val (x_ext (vs := [.agg #[I r00, I r01], I r112]) (v := .agg #[I r00, I r01]) rfl rfl) ?_
 refine s_val (x_ext (vs := [.agg #[I r00, I r01], I r112]) (v := I r112) rfl rfl) ?_
 refine t_alloc (cs := [I 0, I 0]) H Al26 rfl ?_
 intro b_48 w55z H
 refine t_sw 0 0 [I r00, I r01] (.agg #[I r00, I r01]) H rfl rfl Sz26 rfl rfl rfl rfl ?_
 intro w56z H
 refine s_val (x_as (v := I r112) rfl) ?_
 refine s_nil ?_
 replace H := H.pk [0, 7, 8, 9, 10]
 refine W.seq ?_
 refine W.seq ?_
 refine W.draw (fun W => St w W [cBlk b_48 [I r00, I r01] 26, cOwn (α := Int) 3 u0_40 r010, cOwn (α := Int) 3 u0_32 r08, cOwn (α := Int) 3 u0_16 r04, cOwn (α := Int) 3 u0_8 r02] R) [(0, true), (1, true), (2, true), (3, true), (4, true), (5, true), (6, true), (7, true), (8, true), (9, true), (10, true), (11, true), (12, true), (13, true), (14, true), (15, true), (16, true), (17, true), (18, true), (19, true), (20, true), (21, true), (22, true), (23, true), (24, false), (25, false), (26, true), (27, true), (28, true), (29, true), (30, true), (31, true), (32, true), (33, true), (34, true), (35, true), (36, true), (37, true), (38, true), (39, true), (40, false), (41, false), (42, true), (43, true), (44, true), (45, true), (46, false), (47, true), (48, true)] mixed (by decide +kernel) rfl ?_
 intro w57z hx_
 replace H := H.ext hx_
 clear hx_
 refine ⟨(H.pk [0, 1, 2, 3, 4]), ?_⟩
 refine d_q rfl (fun w' H => x_mv (v := I r12) rfl) ?_
 refine d_q rfl (fun w' H => x_cmp (kd := .i64) (a := r12) (b := 0) (r := r12 != 0) rfl rfl rfl) ?_
 refine d_q rfl (fun w' H => x_mv (v := B (r12 != 0)) rfl) ?_
 refine d_qg (!(r12 != 0)) rfl (gy_f rfl) (fun hg => (fun w' H => x_mv (v := I r14) rfl)) ?_
 refine d_qg (!(r12 != 0)) rfl (gy_f rfl) (fun hg => (fun w' H => x_cmp (kd := .i64) (a := r14) (b := 0) (r := r14 != 0) (gd_of (c := !(r12 != 0)) hg (I r14)) rfl rfl)) ?_
 refine d_q rfl (fun w' H => x_por (b := r12 != 0) (r := r14 != 0) rfl rfl (fun hb => gd_of (c := !(r12 != 0)) (by first | exact hb | (rw [hb]; rfl) | simp_all) (B (r14 != 0)))) ?_
 refine d_q rfl (fun w' H => x_mv (v := B ((r12 != 0) || (r14 != 0))) rfl) ?_
 refine d_qg (!((r12 != 0) || (r14 != 0))) rfl (gy_f rfl) (fun hg => (fun w' H => x_mv (v := I r16) rfl)) ?_
 refine d_qg (!((r12 != 0) || (r14 != 0))) rfl (gy_f rfl) (fun hg => (fun w' H => x_cmp (kd := .i64) (a := r16) (b := 6) (r := r16 != 6) (gd_of (c := !((r12 != 0) || (r14 != 0))) hg (I r16)) rfl rfl)) ?_
 refine d_q rfl (fun w' H => x_por (b := ((r12 != 0) || (r14 != 0))) (r := r16 != 6) rfl rfl (fun hb => gd_of (c := !((r12 != 0) || (r14 != 0))) (by first | exact hb | (rw [hb]; rfl) | simp_all) (B (r16 != 6)))) ?_
 refine d_q rfl (fun w' H => x_mv (v := B (((r12 != 0) || (r14 != 0)) || (r16 != 6))) rfl) ?_
 refine d_qg (!(((r12 != 0) || (r14 != 0)) || (r16 != 6))) rfl (gy_f rfl) (fun hg => (fun w' H => x_mv (v := I r18) rfl)) ?_
 refine d_qg (!(((r12 != 0) || (r14 != 0)) || (r16 != 6))) rfl (gy_f rfl) (fun hg => (fun w' H => x_cmp (kd := .i64) (a := r18) (b := 0) (r := r18 != 0) (gd_of (c := !(((r12 != 0) || (r14 != 0)) || (r16 != 6))) hg (I r18)) rfl rfl)) ?_
 refine d_q rfl (fun w' H => x_por (b := (((r12 != 0) || (r14 != 0)) || (r16 != 6))) (r := r18 != 0) rfl rfl (fun hb => gd_of (c := !(((r12 != 0) || (r14 != 0)) || (r16 != 6))) (by first | exact hb | (rw [hb]; rfl) | simp_all) (B (r18 != 0)))) ?_
 refine d_q rfl (fun w' H => x_mv (v := B ((((r12 != 0) || (r14 != 0)) || (r16 != 6)) || (r18 != 0))) rfl) ?_
 refine d_qg (!((((r12 != 0) || (r14 != 0)) || (r16 != 6)) || (r18 != 0))) rfl (gy_f rfl) (fun hg => (fun w' H => x_mv (v := I r110) rfl)) ?_
 refine d_qg (!((((r12 != 0) || (r14 != 0)) || (r16 != 6)) || (r18 != 0))) rfl (gy_f rfl) (fun hg => (fun w' H => x_cmp (kd := .i64) (a := r110) (b := 0) (r := r110 != 0) (gd_of (c := !((((r12 != 0) || (r14 != 0)) || (r16 != 6)) || (r18 != 0))) hg (I r110)) rfl rfl)) ?_
 refine d_q rfl (fun w' H => x_por (b := ((((r12 != 0) || (r14 != 0)) || (r16 != 6)) || (r18 != 0))) (r := r110 != 0) rfl rfl (fun hb => gd_of (c := !((((r12 != 0) || (r14 != 0)) || (r16 != 6)) || (r18 != 0))) (by first | exact hb | (rw [hb]; rfl) | simp_all) (B (r110 != 0)))) ?_
 refine d_q rfl (fun w' H => x_mv (v := B (((((r12 != 0) || (r14 != 0)) || (r16 != 6)) || (r18 != 0)) || (r110 != 0))) rfl) ?_
 refine d_qg (!(((((r12 != 0) || (r14 != 0)) || (r16 != 6)) || (r18 != 0)) || (r110 != 0))) rfl (gy_f rfl) (fun hg => (fun w' H => x_mv (v := I r112) rfl)) ?_
 refine d_qg (!(((((r12 != 0) || (r14 != 0)) || (r16 != 6)) || (r18 != 0)) || (r110 != 0))) rfl (gy_f rfl) (fun hg => (fun w' H => x_cmp (kd := .i64) (a := r112) (b := 0) (r := r112 != 0) (gd_of (c := !(((((r12 != 0) || (r14 != 0)) || (r16 != 6)) || (r18 != 0)) || (r110 != 0))) hg (I r112)) rfl rfl)) ?_
 refine d_q rfl (fun w' H => x_por (b := (((((r12 != 0) || (r14 != 0)) || (r16 != 6)) || (r18 != 0)) || (r110 != 0))) (r := r112 != 0) rfl rfl (fun hb => gd_of (c := !(((((r12 != 0) || (r14 != 0)) || (r16 != 6)) || (r18 != 0)) || (r110 != 0))) (by first | exact hb | (rw [hb]; rfl) | simp_all) (B (r112 != 0)))) ?_
 refine d_q rfl (fun w' H => x_mv (v := B ((((((r12 != 0) || (r14 != 0)) || (r16 != 6)) || (r18 != 0)) || (r110 != 0)) || (r112 != 0))) rfl) ?_
 refine d_qg (!((((((r12 != 0) || (r14 != 0)) || (r16 != 6)) || (r18 != 0)) || (r110 != 0)) || (r112 != 0))) rfl (gy_f rfl) (fun hg => (fun w' H => x_mv (v := u0_8) rfl)) ?_
 refine d_l rfl ?_
 refine t_gbs (α := Int) T22 (!((((((r12 != 0) || (r14 != 0)) || (r16 != 6)) || (r18 != 0)) || (r110 != 0)) || (r112 != 0))) (gy_f rfl) [I 0] [(0 : Int)] H (fun _ => rfl) (.cons rfl (Flat.rep_enc _ (0 : Int)) <| .nil) rfl rfl rfl ?_
 intro v58z Bs_49 w59z H hf60z
 refine s_nil ⟨(H.pk [1, 2, 3, 4, 5]), ?_⟩
 refine d_l rfl ?_
 obtain ⟨r7, hx61z, hM⟩ := M.e_bind hM
 refine t_gcall (!((((((r12 != 0) || (r14 != 0)) || (r16 != 6)) || (r18 != 0)) || (r110 != 0)) || (r112 != 0))) (gy_f rfl) cf15 (B r7) (fun _ => [u0_8, v58z]) (fun hg => lst2 (gd_of (c := !((((((r12 != 0) || (r14 != 0)) || (r16 != 6)) || (r18 != 0)) || (r110 != 0)) || (r112 != 0))) hg (u0_8)) (gd_of (c := !((((((r12 != 0) || (r14 != 0)) || (r16 != 6)) || (r18 != 0)) || (r110 != 0)) || (r112 != 0))) hg (v58z))) H (fun hg => (zai r02 ([(0 : Int)]) (Reads.of (k := 5) rfl ownLe) (ownSl (H.get (k := 5) rfl)) (Reads.of (k := 0) rfl roLe) (hf60z hg) (M.e_opt hx61z hg) _ (H.give (A := []) rfl)).mono fun v_ w_ ⟨y_, hr_, hv_, H_⟩ => by subst hr_; exact ⟨hv_, H.via H_⟩) ?_
 intro w62z H
 refine s_nil ⟨(H.pk [1, 2, 3, 4, 5]), ?_⟩
 refine d_qg (!((((((r12 != 0) || (r14 != 0)) || (r16 != 6)) || (r18 != 0)) || (r110 != 0)) || (r112 != 0))) rfl (gy_f rfl) (fun hg => (fun w' H => x_not (b := r7) (gd_of (c := !((((((r12 != 0) || (r14 != 0)) || (r16 != 6)) || (r18 != 0)) || (r110 != 0)) || (r112 != 0))) hg (B r7)))) ?_
 refine d_q rfl (fun w' H => x_por (b := ((((((r12 != 0) || (r14 != 0)) || (r16 != 6)) || (r18 != 0)) || (r110 != 0)) || (r112 != 0))) (r := !r7) rfl rfl (fun hb => gd_of (c := !((((((r12 != 0) || (r14 != 0)) || (r16 != 6)) || (r18 != 0)) || (r110 != 0)) || (r112 != 0))) (by first | exact hb | (rw [hb]; rfl) | simp_all) (B (!r7)))) ?_
 refine d_q rfl (fun w' H => x_mv (v := B (((((((r12 != 0) || (r14 != 0)) || (r16 != 6)) || (r18 != 0)) || (r110 != 0)) || (r112 != 0)) || (!r7))) rfl) ?_
 refine d_qg (!(((((((r12 != 0) || (r14 != 0)) || (r16 != 6)) || (r18 != 0)) || (r110 != 0)) || (r112 != 0)) || (!r7))) rfl (gy_f rfl) (fun hg => (fun w' H => x_mv (v := u0_16) rfl)) ?_
 refine d_qg (!(((((((r12 != 0) || (r14 != 0)) || (r16 != 6)) || (r18 != 0)) || (r110 != 0)) || (r112 != 0)) || (!r7))) rfl (gy_f rfl) (fun hg => (fun w' H => x_lenS T22.und (gd_of (c := !(((((((r12 != 0) || (r14 != 0)) || (r16 != 6)) || (r18 != 0)) || (r110 != 0)) || (r112 != 0)) || (!r7))) hg (u0_16)) (ownSl (H.get (k := 3) rfl)))) ?_
 refine d_qg (!(((((((r12 != 0) || (r14 != 0)) || (r16 != 6)) || (r18 != 0)) || (r110 != 0)) || (r112 != 0)) || (!r7))) rfl (gy_f rfl) (fun hg => (fun w' H => x_cmp (kd := .i64) (a := (r04.length : Int)) (b := 0) (r := decide (0 < (r04.length : Int))) (gd_of (c := !(((((((r12 != 0) || (r14 != 0)) || (r16 != 6)) || (r18 != 0)) || (r110 != 0)) || (r112 != 0)) || (!r7))) hg (I (r04.length : Int))) rfl rfl)) ?_
 refine d_q rfl (fun w' H => x_por (b := (((((((r12 != 0) || (r14 != 0)) || (r16 != 6)) || (r18 != 0)) || (r110 != 0)) || (r112 != 0)) || (!r7))) (r := decide (0 < (r04.length : Int))) rfl rfl (fun hb => gd_of (c := !(((((((r12 != 0) || (r14 != 0)) || (r16 != 6)) || (r18 != 0)) || (r110 != 0)) || (r112 != 0)) || (!r7))) (by first | exact hb | (rw [hb]; rfl) | simp_all) (B (decide (0 < (r04.length : Int)))))) ?_
 refine d_q rfl (fun w' H => x_mv (v := B ((((((((r12 != 0) || (r14 != 0)) || (r16 != 6)) || (r18 != 0)) || (r110 != 0)) || (r112 != 0)) || (!r7)) || (decide (0 < (r04.length : Int))))) rfl) ?_
 refine d_qg (!((((((((r12 != 0) || (r14 != 0)) || (r16 != 6)) || (r18 != 0)) || (r110 != 0)) || (r112 != 0)) || (!r7)) || (decide (0 < (r04.length : Int))))) rfl (gy_f rfl) (fun hg => (fun w' H => x_mv (v := u0_32) rfl)) ?_
 refine d_qg (!((((((((r12 != 0) || (r14 != 0)) || (r16 != 6)) || (r18 != 0)) || (r110 != 0)) || (r112 != 0)) || (!r7)) || (decide (0 < (r04.length : Int))))) rfl (gy_f rfl) (fun hg => (fun w' H => x_lenS T22.und (gd_of (c := !((((((((r12 != 0) || (r14 != 0)) || (r16 != 6)) || (r18 != 0)) || (r110 != 0)) || (r112 != 0)) || (!r7)) || (decide (0 < (r04.length : Int))))) hg (u0_32)) (ownSl (H.get (k := 2) rfl)))) ?_
 refine d_qg (!((((((((r12 != 0) || (r14 != 0)) || (r16 != 6)) || (r18 != 0)) || (r110 != 0)) || (r112 != 0)) || (!r7)) || (decide (0 < (r04.length : Int))))) rfl (gy_f rfl) (fun hg => (fun w' H => x_cmp (kd := .i64) (a := (r08.length : Int)) (b := 2) (r := (r08.length : Int) != 2) (gd_of (c := !((((((((r12 != 0) || (r14 != 0)) || (r16 != 6)) || (r18 != 0)) || (r110 != 0)) || (r112 != 0)) || (!r7)) || (decide (0 < (r04.length : Int))))) hg (I (r08.length : Int))) rfl rfl)) ?_
 refine d_q rfl (fun w' H => x_por (b := ((((((((r12 != 0) || (r14 != 0)) || (r16 != 6)) || (r18 != 0)) || (r110 != 0)) || (r112 != 0)) || (!r7)) || (decide (0 < (r04.length : Int))))) (r := (r08.length : Int) != 2) rfl rfl (fun hb => gd_of (c := !((((((((r12 != 0) || (r14 != 0)) || (r16 != 6)) || (r18 != 0)) || (r110 != 0)) || (r112 != 0)) || (!r7)) || (decide (0 < (r04.length : Int))))) (by first | exact hb | (rw [hb]; rfl) | simp_all) (B ((r08.length : Int) != 2)))) ?_
 refine d_q rfl (fun w' H => x_mv (v := B (((((((((r12 != 0) || (r14 != 0)) || (r16 != 6)) || (r18 != 0)) || (r110 != 0)) || (r112 != 0)) || (!r7)) || (decide (0 < (r04.length : Int)))) || ((r08.length : Int) != 2))) rfl) ?_
 refine d_qg (!(((((((((r12 != 0) || (r14 != 0)) || (r16 != 6)) || (r18 != 0)) || (r110 != 0)) || (r112 != 0)) || (!r7)) || (decide (0 < (r04.length : Int)))) || ((r08.length : Int) != 2))) rfl (gy_f rfl) (fun hg => (fun w' H => x_mv (v := u0_40) rfl)) ?_
 refine d_l rfl ?_
 refine t_gbs (α := Int) T22 (!(((((((((r12 != 0) || (r14 != 0)) || (r16 != 6)) || (r18 != 0)) || (r110 != 0)) || (r112 != 0)) || (!r7)) || (decide (0 < (r04.length : Int)))) || ((r08.length : Int) != 2))) (gy_f rfl) [I 2] [(2 : Int)] H (fun _ => rfl) (.cons rfl (Flat.rep_enc _ (2 : Int)) <| .nil) rfl rfl rfl ?_
 intro v65z Bs_50 w66z H hf67z
 refine s_nil ⟨(H.pk [2, 3, 4, 5, 6]), ?_⟩
 refine d_l rfl ?_
 obtain ⟨r8, hx68z, hM⟩ := M.e_bind hM
 refine t_gcall (!(((((((((r12 != 0) || (r14 != 0)) || (r16 != 6)) || (r18 != 0)) || (r110 != 0)) || (r112 != 0)) || (!r7)) || (decide (0 < (r04.length : Int)))) || ((r08.length : Int) != 2))) (gy_f rfl) cf15 (B r8) (fun _ => [u0_40, v65z]) (fun hg => lst2 (gd_of (c := !(((((((((r12 != 0) || (r14 != 0)) || (r16 != 6)) || (r18 != 0)) || (r110 != 0)) || (r112 != 0)) || (!r7)) || (decide (0 < (r04.length : Int)))) || ((r08.length : Int) != 2))) hg (u0_40)) (gd_of (c := !(((((((((r12 != 0) || (r14 != 0)) || (r16 != 6)) || (r18 != 0)) || (r110 != 0)) || (r112 != 0)) || (!r7)) || (decide (0 < (r04.length : Int)))) || ((r08.length : Int) != 2))) hg (v65z))) H (fun hg => (zai r010 ([(2 : Int)]) (Reads.of (k := 3) rfl ownLe) (ownSl (H.get (k := 3) rfl)) (Reads.of (k := 0) rfl roLe) (hf67z hg) (M.e_opt hx68z hg) _ (H.give (A := []) rfl)).mono fun v_ w_ ⟨y_, hr_, hv_, H_⟩ => by subst hr_; exact ⟨hv_, H.via H_⟩) ?_
 intro w69z H
 refine s_nil ⟨(H.pk [2, 3, 4, 5, 6]), ?_⟩
 refine d_qg (!(((((((((r12 != 0) || (r14 != 0)) || (r16 != 6)) || (r18 != 0)) || (r110 != 0)) || (r112 != 0)) || (!r7)) || (decide (0 < (r04.length : Int)))) || ((r08.length : Int) != 2))) rfl (gy_f rfl) (fun hg => (fun w' H => x_not (b := r8) (gd_of (c := !(((((((((r12 != 0) || (r14 != 0)) || (r16 != 6)) || (r18 != 0)) || (r110 != 0)) || (r112 != 0)) || (!r7)) || (decide (0 < (r04.length : Int)))) || ((r08.length : Int) != 2))) hg (B r8)))) ?_
 refine d_q rfl (fun w' H => x_por (b := (((((((((r12 != 0) || (r14 != 0)) || (r16 != 6)) || (r18 != 0)) || (r110 != 0)) || (r112 != 0)) || (!r7)) || (decide (0 < (r04.length : Int)))) || ((r08.length : Int) != 2))) (r := !r8) rfl rfl (fun hb => gd_of (c := !(((((((((r12 != 0) || (r14 != 0)) || (r16 != 6)) || (r18 != 0)) || (r110 != 0)) || (r112 != 0)) || (!r7)) || (decide (0 < (r04.length : Int)))) || ((r08.length : Int) != 2))) (by first | exact hb | (rw [hb]; rfl) | simp_all) (B (!r8)))) ?_
 refine d_q rfl (fun w' H => x_mv (v := B ((((((((((r12 != 0) || (r14 != 0)) || (r16 != 6)) || (r18 != 0)) || (r110 != 0)) || (r112 != 0)) || (!r7)) || (decide (0 < (r04.length : Int)))) || ((r08.length : Int) != 2)) || (!r8))) rfl) ?_
 refine d_qg (!((((((((((r12 != 0) || (r14 != 0)) || (r16 != 6)) || (r18 != 0)) || (r110 != 0)) || (r112 != 0)) || (!r7)) || (decide (0 < (r04.length : Int)))) || ((r08.length : Int) != 2)) || (!r8))) rfl (gy_f rfl) (fun hg => (fun w' H => x_ld (p := .pointer (some ⟨b_48, 0, none⟩)) (v := .agg #[I r00, I r01]) rfl (ldb_ag (ds := [I r00, I r01]) Ag26 Sz26 (H.blk (k := 0) rfl) rfl rfl))) ?_
 refine d_l rfl ?_
 refine g_splitV (!((((((((((r12 != 0) || (r14 != 0)) || (r16 != 6)) || (r18 != 0)) || (r110 != 0)) || (r112 != 0)) || (!r7)) || (decide (0 < (r04.length : Int)))) || ((r08.length : Int) != 2)) || (!r8))) (.agg #[I 0, I 0]) (gy_f rfl) (fun hg_ => ?_) (fun hg_ => ?_)
 ·replace hM := M.e_t hM hg_
  obtain ⟨r71z, hx70z, hM⟩ := M.e_bind hM
  refine s_call cf43 [I 6, I 10] rfl (zbn 6 10 hx70z _ (H.gt 7)) ?_
  rintro vq w72z ⟨r012, r113, hr73z, hvq, H2_⟩
  subst hr73z
  subst vq
  try dsimp only at hM
  replace H := H.bk H2_
  clear H2_
  refine s_nil ⟨(H.pk [2, 3, 4, 5, 6]), ?_⟩
  refine d_qg (!((((((((((r12 != 0) || (r14 != 0)) || (r16 != 6)) || (r18 != 0)) || (r110 != 0)) || (r112 != 0)) || (!r7)) || (decide (0 < (r04.length : Int)))) || ((r08.length : Int) != 2)) || (!r8))) rfl (gy_f rfl) (fun hg => (fun w' H => x_neS (eqT26 (⟨(r00 : Int), (r01 : Int)⟩ : Span) (⟨(r012 : Int), (r113 : Int)⟩ : Span) _) gdT26 (gd_of (c := !((((((((((r12 != 0) || (r14 != 0)) || (r16 != 6)) || (r18 != 0)) || (r110 != 0)) || (r112 != 0)) || (!r7)) || (decide (0 < (r04.length : Int)))) || ((r08.length : Int) != 2)) || (!r8))) hg (.agg #[I r00, I r01])) rfl)) ?_
  refine d_q rfl (fun w' H => x_por (b := ((((((((((r12 != 0) || (r14 != 0)) || (r16 != 6)) || (r18 != 0)) || (r110 != 0)) || (r112 != 0)) || (!r7)) || (decide (0 < (r04.length : Int)))) || ((r08.length : Int) != 2)) || (!r8))) (r := !(decide ((⟨(r00 : Int), (r01 : Int)⟩ : Span) = (⟨(r012 : Int), (r113 : Int)⟩ : Span)))) rfl rfl (fun hb => gd_of (c := !((((((((((r12 != 0) || (r14 != 0)) || (r16 != 6)) || (r18 != 0)) || (r110 != 0)) || (r112 != 0)) || (!r7)) || (decide (0 < (r04.length : Int)))) || ((r08.length : Int) != 2)) || (!r8))) (by first | exact hb | (rw [hb]; rfl) | simp_all) (B (!(decide ((⟨(r00 : Int), (r01 : Int)⟩ : Span) = (⟨(r012 : Int), (r113 : Int)⟩ : Span))))))) ?_
  refine d_nil ?_
  replace H := H.pk []
  refine W.cond (((((((((((r12 != 0) || (r14 != 0)) || (r16 != 6)) || (r18 != 0)) || (r110 != 0)) || (r112 != 0)) || (!r7)) || (decide (0 < (r04.length : Int)))) || ((r08.length : Int) != 2)) || (!r8)) || (!(decide ((⟨(r00 : Int), (r01 : Int)⟩ : Span) = (⟨(r012 : Int), (r113 : Int)⟩ : Span))))) rfl (fun c74z => ?_) (fun c74z => ?_)
  ·replace hM := M.e_t hM c74z
   refine W.seq ?_
   refine W.region rfl ?_
   refine s_val (x_as (v := B false) rfl) ?_
   refine s_nil ?_
   refine W.ret ?_
   have hr_ := M.e_pure hM
   exact ⟨_, resE_tmp rfl, ⟨false, hr_, rfl, H⟩⟩
  replace hM := M.e_f hM c74z
  refine W.skip ?_
  refine W.seq ?_
  refine W.region rfl ?_
  obtain ⟨r76z, hx75z, hM⟩ := M.e_bind hM
  refine s_call cf42 [I 1] rfl (zag 1 hx75z _ (H.gt 0)) ?_
  rintro vq w77z ⟨r013, r114, r27, r37, r47, r57, r67, u0_51, u1_52, u2_53, u3_54, u4_55, rr5_56, Bs6_57, hr78z, hvq, H2_, hf79z⟩
  subst hr78z
  subst vq
  try dsimp only at hM
  replace H := H.bk H2_
  clear H2_
  refine t_bs (α := Int) T22 [I 2] [(2 : Int)] H rfl (.cons rfl (Flat.rep_enc _ (2 : Int)) <| .nil) rfl rfl rfl ?_
  intro v80z w81z H
  obtain ⟨r83z, hx82z, hM⟩ := M.e_bind hM
  refine s_call cf13 [.agg #[u0_51, u1_52, u2_53, u3_54, I r47, I r57, u4_55], v80z] rfl (zcx r013 r114 r27 r37 r47 r57 r67 ([(2 : Int)]) (Reads.of (k := 1) rfl ownLe) (ownSl (H.get (k := 1) rfl)) (Reads.of (k := 2) rfl ownLe) (ownSl (H.get (k := 2) rfl)) (Reads.of (k := 3) rfl ownLe) (ownSl (H.get (k := 3) rfl)) (Reads.of (k := 4) rfl ownLe) (ownSl (H.get (k := 4) rfl)) (Reads.sup (Reads.of (k := 5) rfl ownLe) (Reads.of (k := 6) rfl roLe)) (rowSl rfl (H.get (k := 5) rfl) (roLe _ (H.get (k := 6) rfl)) hf79z) (Reads.of (k := 0) rfl ownLe) (ownSl (H.get (k := 0) rfl)) hx82z _ (H.gt 7)) ?_
  rintro vq w84z ⟨r014, r115, r28, u0_59, u1_60, hr85z, hvq, H2_⟩
  subst hr85z
  subst vq
  try dsimp only at hM
  replace H := H.bk H2_
  clear H2_
  refine s_val (x_mv (v := .tuple #[u0_59, u1_60, I r28]) rfl) ?_
  refine s_val (x_ext (vs := [u0_59, u1_60, I r28]) (v := u0_59) rfl rfl) ?_
  refine s_val (x_ext (vs := [u0_59, u1_60, I r28]) (v := u1_60) rfl rfl) ?_
  refine s_val (x_ext (vs := [u0_59, u1_60, I r28]) (v := I r28) rfl rfl) ?_
  refine s_val (x_as (v := u0_59) rfl) ?_
  refine s_val (x_as (v := u1_60) rfl) ?_
  refine s_val (x_as (v := I r28) rfl) ?_
  refine s_nil ?_
  replace H := H.pk [0, 1]
  refine W.seq ?_
  refine W.region rfl ?_
  obtain ⟨r87z, hx86z, hM⟩ := M.e_bind hM
  refine s_call cf42 [I 1] rfl (zag 1 hx86z _ (H.gt 2)) ?_
  rintro vq w88z ⟨r015, r116, r29, r38, r48, r58, r68, u0_61, u1_62, u2_63, u3_64, u4_65, rr5_66, Bs6_67, hr89z, hvq, H2_, hf90z⟩
  subst hr89z
  subst vq
  try dsimp only at hM
  replace H := H.bk H2_
  clear H2_
  refine t_bs (α := Int) T22 [I 2] [(2 : Int)] H rfl (.cons rfl (Flat.rep_enc _ (2 : Int)) <| .nil) rfl rfl rfl ?_
  intro v91z w92z H
  refine t_bs (α := Int) T22 [I 250] [(250 : Int)] H rfl (.cons rfl (Flat.rep_enc _ (250 : Int)) <| .nil) rfl rfl rfl ?_
  intro v93z w94z H
  obtain ⟨r96z, hx95z, hM⟩ := M.e_bind hM
  refine s_call cf16 [.agg #[u0_61, u1_62, u2_63, u3_64, I r48, I r58, u4_65], v91z, v93z] rfl (zaZ r015 r116 r29 r38 r48 r58 r68 ([(2 : Int)]) ([(250 : Int)]) (Reads.of (k := 2) rfl ownLe) (ownSl (H.get (k := 2) rfl)) (Reads.of (k := 3) rfl ownLe) (ownSl (H.get (k := 3) rfl)) (Reads.of (k := 4) rfl ownLe) (ownSl (H.get (k := 4) rfl)) (Reads.of (k := 5) rfl ownLe) (ownSl (H.get (k := 5) rfl)) (Reads.sup (Reads.of (k := 6) rfl ownLe) (Reads.of (k := 7) rfl roLe)) (rowSl rfl (H.get (k := 6) rfl) (roLe _ (H.get (k := 7) rfl)) hf90z) (Reads.of (k := 1) rfl ownLe) (ownSl (H.get (k := 1) rfl)) (Reads.of (k := 0) rfl ownLe) (ownSl (H.get (k := 0) rfl)) hx95z _ (H.gt 10)) ?_
  rintro vq w97z ⟨r016, r117, r210, u0_70, u1_71, hr98z, hvq, H2_⟩
  subst hr98z
  subst vq
  try dsimp only at hM
  replace H := H.bk H2_
  clear H2_
  refine s_val (x_mv (v := .tuple #[u0_70, u1_71, I r210]) rfl) ?_
  refine s_val (x_ext (vs := [u0_70, u1_71, I r210]) (v := u0_70) rfl rfl) ?_
  refine s_val (x_ext (vs := [u0_70, u1_71, I r210]) (v := u1_71) rfl rfl) ?_
  refine s_val (x_ext (vs := [u0_70, u1_71, I r210]) (v := I r210) rfl rfl) ?_
  refine s_val (x_as (v := u0_70) rfl) ?_
  refine s_val (x_as (v := u1_71) rfl) ?_
  refine s_val (x_as (v := I r210) rfl) ?_
  refine s_nil ?_
  replace H := H.pk [0, 1, 10, 11]
  refine W.seq ?_
  refine W.region rfl ?_
  obtain ⟨r100z, hx99z, hM⟩ := M.e_bind hM
  refine s_call cf42 [I 1] rfl (zag 1 hx99z _ (H.gt 4)) ?_
  rintro vq w101z ⟨r017, r118, r211, r39, r49, r59, r69, u0_72, u1_73, u2_74, u3_75, u4_76, rr5_77, Bs6_78, hr102z, hvq, H2_, hf103z⟩
  subst hr102z
  subst vq
  try dsimp only at hM
  replace H := H.bk H2_
  clear H2_
  refine t_bs (α := Int) T22 [I 2] [(2 : Int)] H rfl (.cons rfl (Flat.rep_enc _ (2 : Int)) <| .nil) rfl rfl rfl ?_
  intro v104z w105z H
  refine t_bs (α := Int) T22 [I 240] [(240 : Int)] H rfl (.cons rfl (Flat.rep_enc _ (240 : Int)) <| .nil) rfl rfl rfl ?_
  intro v106z w107z H
  obtain ⟨r109z, hx108z, hM⟩ := M.e_bind hM
  refine s_call cf16 [.agg #[u0_72, u1_73, u2_74, u3_75, I r49, I r59, u4_76], v104z, v106z] rfl (zaZ r017 r118 r211 r39 r49 r59 r69 ([(2 : Int)]) ([(240 : Int)]) (Reads.of (k := 2) rfl ownLe) (ownSl (H.get (k := 2) rfl)) (Reads.of (k := 3) rfl ownLe) (ownSl (H.get (k := 3) rfl)) (Reads.of (k := 4) rfl ownLe) (ownSl (H.get (k := 4) rfl)) (Reads.of (k := 5) rfl ownLe) (ownSl (H.get (k := 5) rfl)) (Reads.sup (Reads.of (k := 6) rfl ownLe) (Reads.of (k := 7) rfl roLe)) (rowSl rfl (H.get (k := 6) rfl) (roLe _ (H.get (k := 7) rfl)) hf103z) (Reads.of (k := 1) rfl ownLe) (ownSl (H.get (k := 1) rfl)) (Reads.of (k := 0) rfl ownLe) (ownSl (H.get (k := 0) rfl)) hx108z _ (H.gt 12)) ?_
  rintro vq w110z ⟨r018, r119, r212, u0_81, u1_82, hr111z, hvq, H2_⟩
  subst hr111z
  subst vq
  try dsimp only at hM
  replace H := H.bk H2_
  clear H2_
  refine s_val (x_mv (v := .tuple #[u0_81, u1_82, I r212]) rfl) ?_
  refine s_val (x_ext (vs := [u0_81, u1_82, I r212]) (v := u0_81) rfl rfl) ?_
  refine s_val (x_ext (vs := [u0_81, u1_82, I r212]) (v := u1_82) rfl rfl) ?_
  refine s_val (x_ext (vs := [u0_81, u1_82, I r212]) (v := I r212) rfl rfl) ?_
  refine s_val (x_as (v := u0_81) rfl) ?_
  refine s_val (x_as (v := u1_82) rfl) ?_
  refine s_val (x_as (v := I r212) rfl) ?_
  refine s_nil ?_
  replace H := H.pk [1, 10, 11, 12, 13]
  refine W.seq ?_
  refine W.region rfl ?_
  obtain ⟨r113z, hx112z, hM⟩ := M.e_bind hM
  refine s_call cf42 [I 1] rfl (zag 1 hx112z _ (H.gt 5)) ?_
  rintro vq w114z ⟨r019, r120, r213, r310, r410, r510, r610, u0_83, u1_84, u2_85, u3_86, u4_87, rr5_88, Bs6_89, hr115z, hvq, H2_, hf116z⟩
  subst hr115z
  subst vq
  try dsimp only at hM
  replace H := H.bk H2_
  clear H2_
  refine t_bs (α := Int) T22 [I 2] [(2 : Int)] H rfl (.cons rfl (Flat.rep_enc _ (2 : Int)) <| .nil) rfl rfl rfl ?_
  intro v117z w118z H
  refine t_bs (α := Int) T22 [I 251] [(251 : Int)] H rfl (.cons rfl (Flat.rep_enc _ (251 : Int)) <| .nil) rfl rfl rfl ?_
  intro v119z w120z H
  obtain ⟨r122z, hx121z, hM⟩ := M.e_bind hM
  refine s_call cf16 [.agg #[u0_83, u1_84, u2_85, u3_86, I r410, I r510, u4_87], v117z, v119z] rfl (zaZ r019 r120 r213 r310 r410 r510 r610 ([(2 : Int)]) ([(251 : Int)]) (Reads.of (k := 2) rfl ownLe) (ownSl (H.get (k := 2) rfl)) (Reads.of (k := 3) rfl ownLe) (ownSl (H.get (k := 3) rfl)) (Reads.of (k := 4) rfl ownLe) (ownSl (H.get (k := 4) rfl)) (Reads.of (k := 5) rfl ownLe) (ownSl (H.get (k := 5) rfl)) (Reads.sup (Reads.of (k := 6) rfl ownLe) (Reads.of (k := 7) rfl roLe)) (rowSl rfl (H.get (k := 6) rfl) (roLe _ (H.get (k := 7) rfl)) hf116z) (Reads.of (k := 1) rfl ownLe) (ownSl (H.get (k := 1) rfl)) (Reads.of (k := 0) rfl ownLe) (ownSl (H.get (k := 0) rfl)) hx121z _ (H.gt 13)) ?_
  rintro vq w123z ⟨r020, r121, r214, u0_92, u1_93, hr124z, hvq, H2_⟩
  subst hr124z
  subst vq
  try dsimp only at hM
  replace H := H.bk H2_
  clear H2_
  refine s_val (x_mv (v := .tuple #[u0_92, u1_93, I r214]) rfl) ?_
  refine s_val (x_ext (vs := [u0_92, u1_93, I r214]) (v := u0_92) rfl rfl) ?_
  refine s_val (x_ext (vs := [u0_92, u1_93, I r214]) (v := u1_93) rfl rfl) ?_
  refine s_val (x_ext (vs := [u0_92, u1_93, I r214]) (v := I r214) rfl rfl) ?_
  refine s_val (x_as (v := u0_92) rfl) ?_
  refine s_val (x_as (v := u1_93) rfl) ?_
  refine s_val (x_as (v := I r214) rfl) ?_
  refine s_nil ?_
  replace H := H.pk [0, 10, 11, 12, 13, 14]
  refine W.seq ?_
  refine W.region rfl ?_
  refine s_val (x_mv (v := I r28) rfl) ?_
  refine s_val (x_cmp (kd := .i64) (a := r28) (b := 0) (r := r28 == 0) rfl rfl rfl) ?_
  refine s_val (x_mv (v := B (r28 == 0)) rfl) ?_
  refine g_val (r28 == 0) (gy_t rfl) (fun hg => x_mv (v := I r210) rfl) ?_
  refine g_val (r28 == 0) (gy_t rfl) (fun hg => x_cmp (kd := .i64) (a := r210) (b := 0) (r := r210 == 0) (gd_of (c := r28 == 0) hg (I r210)) rfl rfl) ?_
  refine s_val (x_pand (b := r28 == 0) (r := r210 == 0) rfl (fun hb => gd_of (c := r28 == 0) (by first | exact hb | (rw [hb]; rfl) | simp_all) (B (r210 == 0))) rfl) ?_
  refine s_val (x_mv (v := B ((r28 == 0) && (r210 == 0))) rfl) ?_
  refine g_val ((r28 == 0) && (r210 == 0)) (gy_t rfl) (fun hg => x_mv (v := I r212) rfl) ?_
  refine g_val ((r28 == 0) && (r210 == 0)) (gy_t rfl) (fun hg => x_cmp (kd := .i64) (a := r212) (b := 0) (r := r212 == 0) (gd_of (c := ((r28 == 0) && (r210 == 0))) hg (I r212)) rfl rfl) ?_
  refine s_val (x_pand (b := ((r28 == 0) && (r210 == 0))) (r := r212 == 0) rfl (fun hb => gd_of (c := ((r28 == 0) && (r210 == 0))) (by first | exact hb | (rw [hb]; rfl) | simp_all) (B (r212 == 0))) rfl) ?_
  refine s_val (x_mv (v := B (((r28 == 0) && (r210 == 0)) && (r212 == 0))) rfl) ?_
  refine g_val (((r28 == 0) && (r210 == 0)) && (r212 == 0)) (gy_t rfl) (fun hg => x_mv (v := I r214) rfl) ?_
  refine g_val (((r28 == 0) && (r210 == 0)) && (r212 == 0)) (gy_t rfl) (fun hg => x_cmp (kd := .i64) (a := r214) (b := 0) (r := r214 == 0) (gd_of (c := (((r28 == 0) && (r210 == 0)) && (r212 == 0))) hg (I r214)) rfl rfl) ?_
  refine s_val (x_pand (b := (((r28 == 0) && (r210 == 0)) && (r212 == 0))) (r := r214 == 0) rfl (fun hb => gd_of (c := (((r28 == 0) && (r210 == 0)) && (r212 == 0))) (by first | exact hb | (rw [hb]; rfl) | simp_all) (B (r214 == 0))) rfl) ?_
  refine s_val (x_mv (v := B ((((r28 == 0) && (r210 == 0)) && (r212 == 0)) && (r214 == 0))) rfl) ?_
  refine g_val ((((r28 == 0) && (r210 == 0)) && (r212 == 0)) && (r214 == 0)) (gy_t rfl) (fun hg => x_mv (v := u0_59) rfl) ?_
  refine t_gbs (α := Int) T22 ((((r28 == 0) && (r210 == 0)) && (r212 == 0)) && (r214 == 0)) (gy_t rfl) [I 250] [(250 : Int)] H (fun _ => rfl) (.cons rfl (Flat.rep_enc _ (250 : Int)) <| .nil) rfl rfl rfl ?_
  intro v125z Bs_94 w126z H hf127z
  obtain ⟨r9, hx128z, hM⟩ := M.e_bind hM
  refine t_gcall ((((r28 == 0) && (r210 == 0)) && (r212 == 0)) && (r214 == 0)) (gy_t rfl) cf15 (B r9) (fun _ => [u0_59, v125z]) (fun hg => lst2 (gd_of (c := ((((r28 == 0) && (r210 == 0)) && (r212 == 0)) && (r214 == 0))) hg (u0_59)) (gd_of (c := ((((r28 == 0) && (r210 == 0)) && (r212 == 0)) && (r214 == 0))) hg (v125z))) H (fun hg => (zai r014 ([(250 : Int)]) (Reads.of (k := 5) rfl ownLe) (ownSl (H.get (k := 5) rfl)) (Reads.of (k := 0) rfl roLe) (hf127z hg) (M.e_opt hx128z hg) _ (H.give (A := []) rfl)).mono fun v_ w_ ⟨y_, hr_, hv_, H_⟩ => by subst hr_; exact ⟨hv_, H.via H_⟩) ?_
  intro w129z H
  refine s_val (x_pand (b := ((((r28 == 0) && (r210 == 0)) && (r212 == 0)) && (r214 == 0))) (r := r9) rfl (fun hb => gd_of (c := ((((r28 == 0) && (r210 == 0)) && (r212 == 0)) && (r214 == 0))) (by first | exact hb | (rw [hb]; rfl) | simp_all) (B r9)) rfl) ?_
  refine s_val (x_mv (v := B (((((r28 == 0) && (r210 == 0)) && (r212 == 0)) && (r214 == 0)) && r9)) rfl) ?_
  refine g_val (((((r28 == 0) && (r210 == 0)) && (r212 == 0)) && (r214 == 0)) && r9) (gy_t rfl) (fun hg => x_mv (v := u1_60) rfl) ?_
  refine t_gbs (α := Int) T22 (((((r28 == 0) && (r210 == 0)) && (r212 == 0)) && (r214 == 0)) && r9) (gy_t rfl) [I 0] [(0 : Int)] H (fun _ => rfl) (.cons rfl (Flat.rep_enc _ (0 : Int)) <| .nil) rfl rfl rfl ?_
  intro v130z Bs_95 w131z H hf132z
  obtain ⟨r10, hx133z, hM⟩ := M.e_bind hM
  refine t_gcall (((((r28 == 0) && (r210 == 0)) && (r212 == 0)) && (r214 == 0)) && r9) (gy_t rfl) cf15 (B r10) (fun _ => [u1_60, v130z]) (fun hg => lst2 (gd_of (c := (((((r28 == 0) && (r210 == 0)) && (r212 == 0)) && (r214 == 0)) && r9)) hg (u1_60)) (gd_of (c := (((((r28 == 0) && (r210 == 0)) && (r212 == 0)) && (r214 == 0)) && r9)) hg (v130z))) H (fun hg => (zai r115 ([(0 : Int)]) (Reads.of (k := 7) rfl ownLe) (ownSl (H.get (k := 7) rfl)) (Reads.of (k := 0) rfl roLe) (hf132z hg) (M.e_opt hx133z hg) _ (H.give (A := []) rfl)).mono fun v_ w_ ⟨y_, hr_, hv_, H_⟩ => by subst hr_; exact ⟨hv_, H.via H_⟩) ?_
  intro w134z H
  refine s_val (x_pand (b := (((((r28 == 0) && (r210 == 0)) && (r212 == 0)) && (r214 == 0)) && r9)) (r := r10) rfl (fun hb => gd_of (c := (((((r28 == 0) && (r210 == 0)) && (r212 == 0)) && (r214 == 0)) && r9)) (by first | exact hb | (rw [hb]; rfl) | simp_all) (B r10)) rfl) ?_
  refine s_val (x_mv (v := B ((((((r28 == 0) && (r210 == 0)) && (r212 == 0)) && (r214 == 0)) && r9) && r10)) rfl) ?_
  refine g_val ((((((r28 == 0) && (r210 == 0)) && (r212 == 0)) && (r214 == 0)) && r9) && r10) (gy_t rfl) (fun hg => x_mv (v := u0_70) rfl) ?_
  refine g_val ((((((r28 == 0) && (r210 == 0)) && (r212 == 0)) && (r214 == 0)) && r9) && r10) (gy_t rfl) (fun hg => x_lenS T22.und (gd_of (c := ((((((r28 == 0) && (r210 == 0)) && (r212 == 0)) && (r214 == 0)) && r9) && r10)) hg (u0_70)) (ownSl (H.get (k := 4) rfl))) ?_
  refine g_val ((((((r28 == 0) && (r210 == 0)) && (r212 == 0)) && (r214 == 0)) && r9) && r10) (gy_t rfl) (fun hg => x_mv (v := u1_71) rfl) ?_
  refine g_val ((((((r28 == 0) && (r210 == 0)) && (r212 == 0)) && (r214 == 0)) && r9) && r10) (gy_t rfl) (fun hg => x_lenS T22.und (gd_of (c := ((((((r28 == 0) && (r210 == 0)) && (r212 == 0)) && (r214 == 0)) && r9) && r10)) hg (u1_71)) (ownSl (H.get (k := 5) rfl))) ?_
  obtain ⟨sd137z, hM⟩ := M.e_grd hM
  replace sd137z := M.imp_of sd137z
  simp only [Bool.and_eq_true, decide_eq_true_eq] at sd137z
  refine g_val ((((((r28 == 0) && (r210 == 0)) && (r212 == 0)) && (r214 == 0)) && r9) && r10) (gy_t rfl) (fun hg => x_ari (a := (r016.length : Int)) (b := (r117.length : Int)) (r := (r016.length : Int) + (r117.length : Int)) (gd_of (c := ((((((r28 == 0) && (r210 == 0)) && (r212 == 0)) && (r214 == 0)) && r9) && r10)) hg (I (r016.length : Int))) (gd_of (c := ((((((r28 == 0) && (r210 == 0)) && (r212 == 0)) && (r214 == 0)) && r9) && r10)) hg (I (r117.length : Int))) rfl (by have h1_ := sd137z.resolve_left (by rw [hg]; decide); first | exact h1_ | exact h1_.1 | exact h1_.2 | omega | (have hx_ := hg; simp at hx_; omega))) ?_
  refine g_val ((((((r28 == 0) && (r210 == 0)) && (r212 == 0)) && (r214 == 0)) && r9) && r10) (gy_t rfl) (fun hg => x_cmp (kd := .i64) (a := (r016.length : Int) + (r117.length : Int)) (b := 0) (r := ((r016.length : Int) + (r117.length : Int)) == 0) (gd_of (c := ((((((r28 == 0) && (r210 == 0)) && (r212 == 0)) && (r214 == 0)) && r9) && r10)) hg (I ((r016.length : Int) + (r117.length : Int)))) rfl rfl) ?_
  refine s_val (x_pand (b := ((((((r28 == 0) && (r210 == 0)) && (r212 == 0)) && (r214 == 0)) && r9) && r10)) (r := ((r016.length : Int) + (r117.length : Int)) == 0) rfl (fun hb => gd_of (c := ((((((r28 == 0) && (r210 == 0)) && (r212 == 0)) && (r214 == 0)) && r9) && r10)) (by first | exact hb | (rw [hb]; rfl) | simp_all) (B (((r016.length : Int) + (r117.length : Int)) == 0))) rfl) ?_
  refine s_val (x_mv (v := B (((((((r28 == 0) && (r210 == 0)) && (r212 == 0)) && (r214 == 0)) && r9) && r10) && (((r016.length : Int) + (r117.length : Int)) == 0))) rfl) ?_
  refine g_val (((((((r28 == 0) && (r210 == 0)) && (r212 == 0)) && (r214 == 0)) && r9) && r10) && (((r016.length : Int) + (r117.length : Int)) == 0)) (gy_t rfl) (fun hg => x_mv (v := u1_82) rfl) ?_
  refine t_gbs (α := Int) T22 (((((((r28 == 0) && (r210 == 0)) && (r212 == 0)) && (r214 == 0)) && r9) && r10) && (((r016.length : Int) + (r117.length : Int)) == 0)) (gy_t rfl) [I 1] [(1 : Int)] H (fun _ => rfl) (.cons rfl (Flat.rep_enc _ (1 : Int)) <| .nil) rfl rfl rfl ?_
  intro v138z Bs_96 w139z H hf140z
  obtain ⟨r11, hx141z, hM⟩ := M.e_bind hM
  refine t_gcall (((((((r28 == 0) && (r210 == 0)) && (r212 == 0)) && (r214 == 0)) && r9) && r10) && (((r016.length : Int) + (r117.length : Int)) == 0)) (gy_t rfl) cf15 (B r11) (fun _ => [u1_82, v138z]) (fun hg => lst2 (gd_of (c := (((((((r28 == 0) && (r210 == 0)) && (r212 == 0)) && (r214 == 0)) && r9) && r10) && (((r016.length : Int) + (r117.length : Int)) == 0))) hg (u1_82)) (gd_of (c := (((((((r28 == 0) && (r210 == 0)) && (r212 == 0)) && (r214 == 0)) && r9) && r10) && (((r016.length : Int) + (r117.length : Int)) == 0))) hg (v138z))) H (fun hg => (zai r119 ([(1 : Int)]) (Reads.of (k := 4) rfl ownLe) (ownSl (H.get (k := 4) rfl)) (Reads.of (k := 0) rfl roLe) (hf140z hg) (M.e_opt hx141z hg) _ (H.give (A := []) rfl)).mono fun v_ w_ ⟨y_, hr_, hv_, H_⟩ => by subst hr_; exact ⟨hv_, H.via H_⟩) ?_
  intro w142z H
  refine s_val (x_pand (b := (((((((r28 == 0) && (r210 == 0)) && (r212 == 0)) && (r214 == 0)) && r9) && r10) && (((r016.length : Int) + (r117.length : Int)) == 0))) (r := r11) rfl (fun hb => gd_of (c := (((((((r28 == 0) && (r210 == 0)) && (r212 == 0)) && (r214 == 0)) && r9) && r10) && (((r016.length : Int) + (r117.length : Int)) == 0))) (by first | exact hb | (rw [hb]; rfl) | simp_all) (B r11)) rfl) ?_
  refine s_val (x_mv (v := B ((((((((r28 == 0) && (r210 == 0)) && (r212 == 0)) && (r214 == 0)) && r9) && r10) && (((r016.length : Int) + (r117.length : Int)) == 0)) && r11)) rfl) ?_
  refine g_val ((((((((r28 == 0) && (r210 == 0)) && (r212 == 0)) && (r214 == 0)) && r9) && r10) && (((r016.length : Int) + (r117.length : Int)) == 0)) && r11) (gy_t rfl) (fun hg => x_mv (v := u0_92) rfl) ?_
  refine t_gbs (α := Int) T22 ((((((((r28 == 0) && (r210 == 0)) && (r212 == 0)) && (r214 == 0)) && r9) && r10) && (((r016.length : Int) + (r117.length : Int)) == 0)) && r11) (gy_t rfl) [I 0] [(0 : Int)] H (fun _ => rfl) (.cons rfl (Flat.rep_enc _ (0 : Int)) <| .nil) rfl rfl rfl ?_
  intro v143z Bs_97 w144z H hf145z
  obtain ⟨r20, hx146z, hM⟩ := M.e_bind hM
  refine t_gcall ((((((((r28 == 0) && (r210 == 0)) && (r212 == 0)) && (r214 == 0)) && r9) && r10) && (((r016.length : Int) + (r117.length : Int)) == 0)) && r11) (gy_t rfl) cf15 (B r20) (fun _ => [u0_92, v143z]) (fun hg => lst2 (gd_of (c := ((((((((r28 == 0) && (r210 == 0)) && (r212 == 0)) && (r214 == 0)) && r9) && r10) && (((r016.length : Int) + (r117.length : Int)) == 0)) && r11)) hg (u0_92)) (gd_of (c := ((((((((r28 == 0) && (r210 == 0)) && (r212 == 0)) && (r214 == 0)) && r9) && r10) && (((r016.length : Int) + (r117.length : Int)) == 0)) && r11)) hg (v143z))) H (fun hg => (zai r020 ([(0 : Int)]) (Reads.of (k := 4) rfl ownLe) (ownSl (H.get (k := 4) rfl)) (Reads.of (k := 0) rfl roLe) (hf145z hg) (M.e_opt hx146z hg) _ (H.give (A := []) rfl)).mono fun v_ w_ ⟨y_, hr_, hv_, H_⟩ => by subst hr_; exact ⟨hv_, H.via H_⟩) ?_
  intro w147z H
  refine s_val (x_pand (b := ((((((((r28 == 0) && (r210 == 0)) && (r212 == 0)) && (r214 == 0)) && r9) && r10) && (((r016.length : Int) + (r117.length : Int)) == 0)) && r11)) (r := r20) rfl (fun hb => gd_of (c := ((((((((r28 == 0) && (r210 == 0)) && (r212 == 0)) && (r214 == 0)) && r9) && r10) && (((r016.length : Int) + (r117.length : Int)) == 0)) && r11)) (by first | exact hb | (rw [hb]; rfl) | simp_all) (B r20)) rfl) ?_
  refine s_val (x_as (v := B (((((((((r28 == 0) && (r210 == 0)) && (r212 == 0)) && (r214 == 0)) && r9) && r10) && (((r016.length : Int) + (r117.length : Int)) == 0)) && r11) && r20)) rfl) ?_
  refine s_nil ?_
  replace H := H.pk []
  refine W.ret ?_
  have hr_ := M.e_pure hM
  exact ⟨_, resE_tmp rfl, ⟨(((((((((r28 == 0) && (r210 == 0)) && (r212 == 0)) && (r214 == 0)) && r9) && r10) && (((r016.length : Int) + (r117.length : Int)) == 0)) && r11) && r20), hr_, rfl, H⟩⟩
 replace hM := M.e_f hM hg_
 refine s_nil ⟨(H.pk [2, 3, 4, 5, 6]), ?_⟩
 refine d_qg (!((((((((((r12 != 0) || (r14 != 0)) || (r16 != 6)) || (r18 != 0)) || (r110 != 0)) || (r112 != 0)) || (!r7)) || (decide (0 < (r04.length : Int)))) || ((r08.length : Int) != 2)) || (!r8))) rfl (gy_f rfl) (fun hg => (fun w' H => x_neS (eqT26 (⟨(r00 : Int), (r01 : Int)⟩ : Span) (⟨(0 : Int), (0 : Int)⟩ : Span) _) gdT26 (gd_of (c := !((((((((((r12 != 0) || (r14 != 0)) || (r16 != 6)) || (r18 != 0)) || (r110 != 0)) || (r112 != 0)) || (!r7)) || (decide (0 < (r04.length : Int)))) || ((r08.length : Int) != 2)) || (!r8))) hg (.agg #[I r00, I r01])) (gd_of (c := !((((((((((r12 != 0) || (r14 != 0)) || (r16 != 6)) || (r18 != 0)) || (r110 != 0)) || (r112 != 0)) || (!r7)) || (decide (0 < (r04.length : Int)))) || ((r08.length : Int) != 2)) || (!r8))) hg (.agg #[I 0, I 0])))) ?_
 refine d_q rfl (fun w' H => x_por (b := ((((((((((r12 != 0) || (r14 != 0)) || (r16 != 6)) || (r18 != 0)) || (r110 != 0)) || (r112 != 0)) || (!r7)) || (decide (0 < (r04.length : Int)))) || ((r08.length : Int) != 2)) || (!r8))) (r := !(decide ((⟨(r00 : Int), (r01 : Int)⟩ : Span) = (⟨(0 : Int), (0 : Int)⟩ : Span)))) rfl rfl (fun hb => gd_of (c := !((((((((((r12 != 0) || (r14 != 0)) || (r16 != 6)) || (r18 != 0)) || (r110 != 0)) || (r112 != 0)) || (!r7)) || (decide (0 < (r04.length : Int)))) || ((r08.length : Int) != 2)) || (!r8))) (by first | exact hb | (rw [hb]; rfl) | simp_all) (B (!(decide ((⟨(r00 : Int), (r01 : Int)⟩ : Span) = (⟨(0 : Int), (0 : Int)⟩ : Span))))))) ?_
 refine d_nil ?_
 replace H := H.pk []
 refine W.cond (((((((((((r12 != 0) || (r14 != 0)) || (r16 != 6)) || (r18 != 0)) || (r110 != 0)) || (r112 != 0)) || (!r7)) || (decide (0 < (r04.length : Int)))) || ((r08.length : Int) != 2)) || (!r8)) || (!(decide ((⟨(r00 : Int), (r01 : Int)⟩ : Span) = (⟨(0 : Int), (0 : Int)⟩ : Span))))) rfl (fun c148z => ?_) (fun c148z => ?_)
 ·replace hM := M.e_t hM c148z
  refine W.seq ?_
  refine W.region rfl ?_
  refine s_val (x_as (v := B false) rfl) ?_
  refine s_nil ?_
  refine W.ret ?_
  have hr_ := M.e_pure hM
  exact ⟨_, resE_tmp rfl, ⟨false, hr_, rfl, H⟩⟩
 replace hM := M.e_f hM c148z
 refine W.skip ?_
 refine W.seq ?_
 refine W.region rfl ?_
 obtain ⟨r150z, hx149z, hM⟩ := M.e_bind hM
 refine s_call cf42 [I 1] rfl (zag 1 hx149z _ (H.gt 0)) ?_
 rintro vq w151z ⟨r013, r114, r27, r37, r47, r57, r67, u0_51, u1_52, u2_53, u3_54, u4_55, rr5_56, Bs6_57, hr152z, hvq, H2_, hf153z⟩
 subst hr152z
 subst vq
 try dsimp only at hM
 replace H := H.bk H2_
 clear H2_
 refine t_bs (α := Int) T22 [I 2] [(2 : Int)] H rfl (.cons rfl (Flat.rep_enc _ (2 : Int)) <| .nil) rfl rfl rfl ?_
 intro v154z w155z H
 obtain ⟨r157z, hx156z, hM⟩ := M.e_bind hM
 refine s_call cf13 [.agg #[u0_51, u1_52, u2_53, u3_54, I r47, I r57, u4_55], v154z] rfl (zcx r013 r114 r27 r37 r47 r57 r67 ([(2 : Int)]) (Reads.of (k := 1) rfl ownLe) (ownSl (H.get (k := 1) rfl)) (Reads.of (k := 2) rfl ownLe) (ownSl (H.get (k := 2) rfl)) (Reads.of (k := 3) rfl ownLe) (ownSl (H.get (k := 3) rfl)) (Reads.of (k := 4) rfl ownLe) (ownSl (H.get (k := 4) rfl)) (Reads.sup (Reads.of (k := 5) rfl ownLe) (Reads.of (k := 6) rfl roLe)) (rowSl rfl (H.get (k := 5) rfl) (roLe _ (H.get (k := 6) rfl)) hf153z) (Reads.of (k := 0) rfl ownLe) (ownSl (H.get (k := 0) rfl)) hx156z _ (H.gt 7)) ?_
 rintro vq w158z ⟨r014, r115, r28, u0_59, u1_60, hr159z, hvq, H2_⟩
 subst hr159z
 subst vq
 try dsimp only at hM
 replace H := H.bk H2_
 clear H2_
 refine s_val (x_mv (v := .tuple #[u0_59, u1_60, I r28]) rfl) ?_
 refine s_val (x_ext (vs := [u0_59, u1_60, I r28]) (v := u0_59) rfl rfl) ?_
 refine s_val (x_ext (vs := [u0_59, u1_60, I r28]) (v := u1_60) rfl rfl) ?_
 refine s_val (x_ext (vs := [u0_59, u1_60, I r28]) (v := I r28) rfl rfl) ?_
 refine s_val (x_as (v := u0_59) rfl) ?_
 refine s_val (x_as (v := u1_60) rfl) ?_
 refine s_val (x_as (v := I r28) rfl) ?_
 refine s_nil ?_
 replace H := H.pk [0, 1]
 refine W.seq ?_
 refine W.region rfl ?_
 obtain ⟨r161z, hx160z, hM⟩ := M.e_bind hM
 refine s_call cf42 [I 1] rfl (zag 1 hx160z _ (H.gt 2)) ?_
 rintro vq w162z ⟨r015, r116, r29, r38, r48, r58, r68, u0_61, u1_62, u2_63, u3_64, u4_65, rr5_66, Bs6_67, hr163z, hvq, H2_, hf164z⟩
 subst hr163z
 subst vq
 try dsimp only at hM
 replace H := H.bk H2_
 clear H2_
 refine t_bs (α := Int) T22 [I 2] [(2 : Int)] H rfl (.cons rfl (Flat.rep_enc _ (2 : Int)) <| .nil) rfl rfl rfl ?_
 intro v165z w166z H
 refine t_bs (α := Int) T22 [I 250] [(250 : Int)] H rfl (.cons rfl (Flat.rep_enc _ (250 : Int)) <| .nil) rfl rfl rfl ?_
 intro v167z w168z H
 obtain ⟨r170z, hx169z, hM⟩ := M.e_bind hM
 refine s_call cf16 [.agg #[u0_61, u1_62, u2_63, u3_64, I r48, I r58, u4_65], v165z, v167z] rfl (zaZ r015 r116 r29 r38 r48 r58 r68 ([(2 : Int)]) ([(250 : Int)]) (Reads.of (k := 2) rfl ownLe) (ownSl (H.get (k := 2) rfl)) (Reads.of (k := 3) rfl ownLe) (ownSl (H.get (k := 3) rfl)) (Reads.of (k := 4) rfl ownLe) (ownSl (H.get (k := 4) rfl)) (Reads.of (k := 5) rfl ownLe) (ownSl (H.get (k := 5) rfl)) (Reads.sup (Reads.of (k := 6) rfl ownLe) (Reads.of (k := 7) rfl roLe)) (rowSl rfl (H.get (k := 6) rfl) (roLe _ (H.get (k := 7) rfl)) hf164z) (Reads.of (k := 1) rfl ownLe) (ownSl (H.get (k := 1) rfl)) (Reads.of (k := 0) rfl ownLe) (ownSl (H.get (k := 0) rfl)) hx169z _ (H.gt 10)) ?_
 rintro vq w171z ⟨r016, r117, r210, u0_70, u1_71, hr172z, hvq, H2_⟩
 subst hr172z
 subst vq
 try dsimp only at hM
 replace H := H.bk H2_
 clear H2_
 refine s_val (x_mv (v := .tuple #[u0_70, u1_71, I r210]) rfl) ?_
 refine s_val (x_ext (vs := [u0_70, u1_71, I r210]) (v := u0_70) rfl rfl) ?_
 refine s_val (x_ext (vs := [u0_70, u1_71, I r210]) (v := u1_71) rfl rfl) ?_
 refine s_val (x_ext (vs := [u0_70, u1_71, I r210]) (v := I r210) rfl rfl) ?_
 refine s_val (x_as (v := u0_70) rfl) ?_
 refine s_val (x_as (v := u1_71) rfl) ?_
 refine s_val (x_as (v := I r210) rfl) ?_
 refine s_nil ?_
 replace H := H.pk [0, 1, 10, 11]
 refine W.seq ?_
 refine W.region rfl ?_
 obtain ⟨r174z, hx173z, hM⟩ := M.e_bind hM
 refine s_call cf42 [I 1] rfl (zag 1 hx173z _ (H.gt 4)) ?_
 rintro vq w175z ⟨r017, r118, r211, r39, r49, r59, r69, u0_72, u1_73, u2_74, u3_75, u4_76, rr5_77, Bs6_78, hr176z, hvq, H2_, hf177z⟩
 subst hr176z
 subst vq
 try dsimp only at hM
 replace H := H.bk H2_
 clear H2_
 refine t_bs (α := Int) T22 [I 2] [(2 : Int)] H rfl (.cons rfl (Flat.rep_enc _ (2 : Int)) <| .nil) rfl rfl rfl ?_
 intro v178z w179z H
 refine t_bs (α := Int) T22 [I 240] [(240 : Int)] H rfl (.cons rfl (Flat.rep_enc _ (240 : Int)) <| .nil) rfl rfl rfl ?_
 intro v180z w181z H
 obtain ⟨r183z, hx182z, hM⟩ := M.e_bind hM
 refine s_call cf16 [.agg #[u0_72, u1_73, u2_74, u3_75, I r49, I r59, u4_76], v178z, v180z] rfl (zaZ r017 r118 r211 r39 r49 r59 r69 ([(2 : Int)]) ([(240 : Int)]) (Reads.of (k := 2) rfl ownLe) (ownSl (H.get (k := 2) rfl)) (Reads.of (k := 3) rfl ownLe) (ownSl (H.get (k := 3) rfl)) (Reads.of (k := 4) rfl ownLe) (ownSl (H.get (k := 4) rfl)) (Reads.of (k := 5) rfl ownLe) (ownSl (H.get (k := 5) rfl)) (Reads.sup (Reads.of (k := 6) rfl ownLe) (Reads.of (k := 7) rfl roLe)) (rowSl rfl (H.get (k := 6) rfl) (roLe _ (H.get (k := 7) rfl)) hf177z) (Reads.of (k := 1) rfl ownLe) (ownSl (H.get (k := 1) rfl)) (Reads.of (k := 0) rfl ownLe) (ownSl (H.get (k := 0) rfl)) hx182z _ (H.gt 12)) ?_
 rintro vq w184z ⟨r018, r119, r212, u0_81, u1_82, hr185z, hvq, H2_⟩
 subst hr185z
 subst vq
 try dsimp only at hM
 replace H := H.bk H2_
 clear H2_
 refine s_val (x_mv (v := .tuple #[u0_81, u1_82, I r212]) rfl) ?_
 refine s_val (x_ext (vs := [u0_81, u1_82, I r212]) (v := u0_81) rfl rfl) ?_
 refine s_val (x_ext (vs := [u0_81, u1_82, I r212]) (v := u1_82) rfl rfl) ?_
 refine s_val (x_ext (vs := [u0_81, u1_82, I r212]) (v := I r212) rfl rfl) ?_
 refine s_val (x_as (v := u0_81) rfl) ?_
 refine s_val (x_as (v := u1_82) rfl) ?_
 refine s_val (x_as (v := I r212) rfl) ?_
 refine s_nil ?_
 replace H := H.pk [1, 10, 11, 12, 13]
 refine W.seq ?_
 refine W.region rfl ?_
 obtain ⟨r187z, hx186z, hM⟩ := M.e_bind hM
 refine s_call cf42 [I 1] rfl (zag 1 hx186z _ (H.gt 5)) ?_
 rintro vq w188z ⟨r019, r120, r213, r310, r410, r510, r610, u0_83, u1_84, u2_85, u3_86, u4_87, rr5_88, Bs6_89, hr189z, hvq, H2_, hf190z⟩
 subst hr189z
 subst vq
 try dsimp only at hM
 replace H := H.bk H2_
 clear H2_
 refine t_bs (α := Int) T22 [I 2] [(2 : Int)] H rfl (.cons rfl (Flat.rep_enc _ (2 : Int)) <| .nil) rfl rfl rfl ?_
 intro v191z w192z H
 refine t_bs (α := Int) T22 [I 251] [(251 : Int)] H rfl (.cons rfl (Flat.rep_enc _ (251 : Int)) <| .nil) rfl rfl rfl ?_
 intro v193z w194z H
 obtain ⟨r196z, hx195z, hM⟩ := M.e_bind hM
 refine s_call cf16 [.agg #[u0_83, u1_84, u2_85, u3_86, I r410, I r510, u4_87], v191z, v193z] rfl (zaZ r019 r120 r213 r310 r410 r510 r610 ([(2 : Int)]) ([(251 : Int)]) (Reads.of (k := 2) rfl ownLe) (ownSl (H.get (k := 2) rfl)) (Reads.of (k := 3) rfl ownLe) (ownSl (H.get (k := 3) rfl)) (Reads.of (k := 4) rfl ownLe) (ownSl (H.get (k := 4) rfl)) (Reads.of (k := 5) rfl ownLe) (ownSl (H.get (k := 5) rfl)) (Reads.sup (Reads.of (k := 6) rfl ownLe) (Reads.of (k := 7) rfl roLe)) (rowSl rfl (H.get (k := 6) rfl) (roLe _ (H.get (k := 7) rfl)) hf190z) (Reads.of (k := 1) rfl ownLe) (ownSl (H.get (k := 1) rfl)) (Reads.of (k := 0) rfl ownLe) (ownSl (H.get (k := 0) rfl)) hx195z _ (H.gt 13)) ?_
 rintro vq w197z ⟨r020, r121, r214, u0_92, u1_93, hr198z, hvq, H2_⟩
 subst hr198z
 subst vq
 try dsimp only at hM
 replace H := H.bk H2_
 clear H2_
 refine s_val (x_mv (v := .tuple #[u0_92, u1_93, I r214]) rfl) ?_
 refine s_val (x_ext (vs := [u0_92, u1_93, I r214]) (v := u0_92) rfl rfl) ?_
 refine s_val (x_ext (vs := [u0_92, u1_93, I r214]) (v := u1_93) rfl rfl) ?_
 refine s_val (x_ext (vs := [u0_92, u1_93, I r214]) (v := I r214) rfl rfl) ?_
 refine s_val (x_as (v := u0_92) rfl) ?_
 refine s_val (x_as (v := u1_93) rfl) ?_
 refine s_val (x_as (v := I r214) rfl) ?_
 refine s_nil ?_
 replace H := H.pk [0, 10, 11, 12, 13, 14]
 refine W.seq ?_
 refine W.region rfl ?_
 refine s_val (x_mv (v := I r28) rfl) ?_
 refine s_val (x_cmp (kd := .i64) (a := r28) (b := 0) (r := r28 == 0) rfl rfl rfl) ?_
 refine s_val (x_mv (v := B (r28 == 0)) rfl) ?_
 refine g_val (r28 == 0) (gy_t rfl) (fun hg => x_mv (v := I r210) rfl) ?_
 refine g_val (r28 == 0) (gy_t rfl) (fun hg => x_cmp (kd := .i64) (a := r210) (b := 0) (r := r210 == 0) (gd_of (c := r28 == 0) hg (I r210)) rfl rfl) ?_
 refine s_val (x_pand (b := r28 == 0) (r := r210 == 0) rfl (fun hb => gd_of (c := r28 == 0) (by first | exact hb | (rw [hb]; rfl) | simp_all) (B (r210 == 0))) rfl) ?_
 refine s_val (x_mv (v := B ((r28 == 0) && (r210 == 0))) rfl) ?_
 refine g_val ((r28 == 0) && (r210 == 0)) (gy_t rfl) (fun hg => x_mv (v := I r212) rfl) ?_
 refine g_val ((r28 == 0) && (r210 == 0)) (gy_t rfl) (fun hg => x_cmp (kd := .i64) (a := r212) (b := 0) (r := r212 == 0) (gd_of (c := ((r28 == 0) && (r210 == 0))) hg (I r212)) rfl rfl) ?_
 refine s_val (x_pand (b := ((r28 == 0) && (r210 == 0))) (r := r212 == 0) rfl (fun hb => gd_of (c := ((r28 == 0) && (r210 == 0))) (by first | exact hb | (rw [hb]; rfl) | simp_all) (B (r212 == 0))) rfl) ?_
 refine s_val (x_mv (v := B (((r28 == 0) && (r210 == 0)) && (r212 == 0))) rfl) ?_
 refine g_val (((r28 == 0) && (r210 == 0)) && (r212 == 0)) (gy_t rfl) (fun hg => x_mv (v := I r214) rfl) ?_
 refine g_val (((r28 == 0) && (r210 == 0)) && (r212 == 0)) (gy_t rfl) (fun hg => x_cmp (kd := .i64) (a := r214) (b := 0) (r := r214 == 0) (gd_of (c := (((r28 == 0) && (r210 == 0)) && (r212 == 0))) hg (I r214)) rfl rfl) ?_
 refine s_val (x_pand (b := (((r28 == 0) && (r210 == 0)) && (r212 == 0))) (r := r214 == 0) rfl (fun hb => gd_of (c := (((r28 == 0) && (r210 == 0)) && (r212 == 0))) (by first | exact hb | (rw [hb]; rfl) | simp_all) (B (r214 == 0))) rfl) ?_
 refine s_val (x_mv (v := B ((((r28 == 0) && (r210 == 0)) && (r212 == 0)) && (r214 == 0))) rfl) ?_
 refine g_val ((((r28 == 0) && (r210 == 0)) && (r212 == 0)) && (r214 == 0)) (gy_t rfl) (fun hg => x_mv (v := u0_59) rfl) ?_
 refine t_gbs (α := Int) T22 ((((r28 == 0) && (r210 == 0)) && (r212 == 0)) && (r214 == 0)) (gy_t rfl) [I 250] [(250 : Int)] H (fun _ => rfl) (.cons rfl (Flat.rep_enc _ (250 : Int)) <| .nil) rfl rfl rfl ?_
 intro v199z Bs_94 w200z H hf201z
 obtain ⟨r9, hx202z, hM⟩ := M.e_bind hM
 refine t_gcall ((((r28 == 0) && (r210 == 0)) && (r212 == 0)) && (r214 == 0)) (gy_t rfl) cf15 (B r9) (fun _ => [u0_59, v199z]) (fun hg => lst2 (gd_of (c := ((((r28 == 0) && (r210 == 0)) && (r212 == 0)) && (r214 == 0))) hg (u0_59)) (gd_of (c := ((((r28 == 0) && (r210 == 0)) && (r212 == 0)) && (r214 == 0))) hg (v199z))) H (fun hg => (zai r014 ([(250 : Int)]) (Reads.of (k := 5) rfl ownLe) (ownSl (H.get (k := 5) rfl)) (Reads.of (k := 0) rfl roLe) (hf201z hg) (M.e_opt hx202z hg) _ (H.give (A := []) rfl)).mono fun v_ w_ ⟨y_, hr_, hv_, H_⟩ => by subst hr_; exact ⟨hv_, H.via H_⟩) ?_
 intro w203z H
 refine s_val (x_pand (b := ((((r28 == 0) && (r210 == 0)) && (r212 == 0)) && (r214 == 0))) (r := r9) rfl (fun hb => gd_of (c := ((((r28 == 0) && (r210 == 0)) && (r212 == 0)) && (r214 == 0))) (by first | exact hb | (rw [hb]; rfl) | simp_all) (B r9)) rfl) ?_
 refine s_val (x_mv (v := B (((((r28 == 0) && (r210 == 0)) && (r212 == 0)) && (r214 == 0)) && r9)) rfl) ?_
 refine g_val (((((r28 == 0) && (r210 == 0)) && (r212 == 0)) && (r214 == 0)) && r9) (gy_t rfl) (fun hg => x_mv (v := u1_60) rfl) ?_
 refine t_gbs (α := Int) T22 (((((r28 == 0) && (r210 == 0)) && (r212 == 0)) && (r214 == 0)) && r9) (gy_t rfl) [I 0] [(0 : Int)] H (fun _ => rfl) (.cons rfl (Flat.rep_enc _ (0 : Int)) <| .nil) rfl rfl rfl ?_
 intro v204z Bs_95 w205z H hf206z
 obtain ⟨r10, hx207z, hM⟩ := M.e_bind hM
 refine t_gcall (((((r28 == 0) && (r210 == 0)) && (r212 == 0)) && (r214 == 0)) && r9) (gy_t rfl) cf15 (B r10) (fun _ => [u1_60, v204z]) (fun hg => lst2 (gd_of (c := (((((r28 == 0) && (r210 == 0)) && (r212 == 0)) && (r214 == 0)) && r9)) hg (u1_60)) (gd_of (c := (((((r28 == 0) && (r210 == 0)) && (r212 == 0)) && (r214 == 0)) && r9)) hg (v204z))) H (fun hg => (zai r115 ([(0 : Int)]) (Reads.of (k := 7) rfl ownLe) (ownSl (H.get (k := 7) rfl)) (Reads.of (k := 0) rfl roLe) (hf206z hg) (M.e_opt hx207z hg) _ (H.give (A := []) rfl)).mono fun v_ w_ ⟨y_, hr_, hv_, H_⟩ => by subst hr_; exact ⟨hv_, H.via H_⟩) ?_
 intro w208z H
 refine s_val (x_pand (b := (((((r28 == 0) && (r210 == 0)) && (r212 == 0)) && (r214 == 0)) && r9)) (r := r10) rfl (fun hb => gd_of (c := (((((r28 == 0) && (r210 == 0)) && (r212 == 0)) && (r214 == 0)) && r9)) (by first | exact hb | (rw [hb]; rfl) | simp_all) (B r10)) rfl) ?_
 refine s_val (x_mv (v := B ((((((r28 == 0) && (r210 == 0)) && (r212 == 0)) && (r214 == 0)) && r9) && r10)) rfl) ?_
 refine g_val ((((((r28 == 0) && (r210 == 0)) && (r212 == 0)) && (r214 == 0)) && r9) && r10) (gy_t rfl) (fun hg => x_mv (v := u0_70) rfl) ?_
 refine g_val ((((((r28 == 0) && (r210 == 0)) && (r212 == 0)) && (r214 == 0)) && r9) && r10) (gy_t rfl) (fun hg => x_lenS T22.und (gd_of (c := ((((((r28 == 0) && (r210 == 0)) && (r212 == 0)) && (r214 == 0)) && r9) && r10)) hg (u0_70)) (ownSl (H.get (k := 4) rfl))) ?_
 refine g_val ((((((r28 == 0) && (r210 == 0)) && (r212 == 0)) && (r214 == 0)) && r9) && r10) (gy_t rfl) (fun hg => x_mv (v := u1_71) rfl) ?_
 refine g_val ((((((r28 == 0) && (r210 == 0)) && (r212 == 0)) && (r214 == 0)) && r9) && r10) (gy_t rfl) (fun hg => x_lenS T22.und (gd_of (c := ((((((r28 == 0) && (r210 == 0)) && (r212 == 0)) && (r214 == 0)) && r9) && r10)) hg (u1_71)) (ownSl (H.get (k := 5) rfl))) ?_
 obtain ⟨sd211z, hM⟩ := M.e_grd hM
 replace sd211z := M.imp_of sd211z
 simp only [Bool.and_eq_true, decide_eq_true_eq] at sd211z
 refine g_val ((((((r28 == 0) && (r210 == 0)) && (r212 == 0)) && (r214 == 0)) && r9) && r10) (gy_t rfl) (fun hg => x_ari (a := (r016.length : Int)) (b := (r117.length : Int)) (r := (r016.length : Int) + (r117.length : Int)) (gd_of (c := ((((((r28 == 0) && (r210 == 0)) && (r212 == 0)) && (r214 == 0)) && r9) && r10)) hg (I (r016.length : Int))) (gd_of (c := ((((((r28 == 0) && (r210 == 0)) && (r212 == 0)) && (r214 == 0)) && r9) && r10)) hg (I (r117.length : Int))) rfl (by have h1_ := sd211z.resolve_left (by rw [hg]; decide); first | exact h1_ | exact h1_.1 | exact h1_.2 | omega | (have hx_ := hg; simp at hx_; omega))) ?_
 refine g_val ((((((r28 == 0) && (r210 == 0)) && (r212 == 0)) && (r214 == 0)) && r9) && r10) (gy_t rfl) (fun hg => x_cmp (kd := .i64) (a := (r016.length : Int) + (r117.length : Int)) (b := 0) (r := ((r016.length : Int) + (r117.length : Int)) == 0) (gd_of (c := ((((((r28 == 0) && (r210 == 0)) && (r212 == 0)) && (r214 == 0)) && r9) && r10)) hg (I ((r016.length : Int) + (r117.length : Int)))) rfl rfl) ?_
 refine s_val (x_pand (b := ((((((r28 == 0) && (r210 == 0)) && (r212 == 0)) && (r214 == 0)) && r9) && r10)) (r := ((r016.length : Int) + (r117.length : Int)) == 0) rfl (fun hb => gd_of (c := ((((((r28 == 0) && (r210 == 0)) && (r212 == 0)) && (r214 == 0)) && r9) && r10)) (by first | exact hb | (rw [hb]; rfl) | simp_all) (B (((r016.length : Int) + (r117.length : Int)) == 0))) rfl) ?_
 refine s_val (x_mv (v := B (((((((r28 == 0) && (r210 == 0)) && (r212 == 0)) && (r214 == 0)) && r9) && r10) && (((r016.length : Int) + (r117.length : Int)) == 0))) rfl) ?_
 refine g_val (((((((r28 == 0) && (r210 == 0)) && (r212 == 0)) && (r214 == 0)) && r9) && r10) && (((r016.length : Int) + (r117.length : Int)) == 0)) (gy_t rfl) (fun hg => x_mv (v := u1_82) rfl) ?_
 refine t_gbs (α := Int) T22 (((((((r28 == 0) && (r210 == 0)) && (r212 == 0)) && (r214 == 0)) && r9) && r10) && (((r016.length : Int) + (r117.length : Int)) == 0)) (gy_t rfl) [I 1] [(1 : Int)] H (fun _ => rfl) (.cons rfl (Flat.rep_enc _ (1 : Int)) <| .nil) rfl rfl rfl ?_
 intro v212z Bs_96 w213z H hf214z
 obtain ⟨r11, hx215z, hM⟩ := M.e_bind hM
 refine t_gcall (((((((r28 == 0) && (r210 == 0)) && (r212 == 0)) && (r214 == 0)) && r9) && r10) && (((r016.length : Int) + (r117.length : Int)) == 0)) (gy_t rfl) cf15 (B r11) (fun _ => [u1_82, v212z]) (fun hg => lst2 (gd_of (c := (((((((r28 == 0) && (r210 == 0)) && (r212 == 0)) && (r214 == 0)) && r9) && r10) && (((r016.length : Int) + (r117.length : Int)) == 0))) hg (u1_82)) (gd_of (c := (((((((r28 == 0) && (r210 == 0)) && (r212 == 0)) && (r214 == 0)) && r9) && r10) && (((r016.length : Int) + (r117.length : Int)) == 0))) hg (v212z))) H (fun hg => (zai r119 ([(1 : Int)]) (Reads.of (k := 4) rfl ownLe) (ownSl (H.get (k := 4) rfl)) (Reads.of (k := 0) rfl roLe) (hf214z hg) (M.e_opt hx215z hg) _ (H.give (A := []) rfl)).mono fun v_ w_ ⟨y_, hr_, hv_, H_⟩ => by subst hr_; exact ⟨hv_, H.via H_⟩) ?_
 intro w216z H
 refine s_val (x_pand (b := (((((((r28 == 0) && (r210 == 0)) && (r212 == 0)) && (r214 == 0)) && r9) && r10) && (((r016.length : Int) + (r117.length : Int)) == 0))) (r := r11) rfl (fun hb => gd_of (c := (((((((r28 == 0) && (r210 == 0)) && (r212 == 0)) && (r214 == 0)) && r9) && r10) && (((r016.length : Int) + (r117.length : Int)) == 0))) (by first | exact hb | (rw [hb]; rfl) | simp_all) (B r11)) rfl) ?_
 refine s_val (x_mv (v := B ((((((((r28 == 0) && (r210 == 0)) && (r212 == 0)) && (r214 == 0)) && r9) && r10) && (((r016.length : Int) + (r117.length : Int)) == 0)) && r11)) rfl) ?_
 refine g_val ((((((((r28 == 0) && (r210 == 0)) && (r212 == 0)) && (r214 == 0)) && r9) && r10) && (((r016.length : Int) + (r117.length : Int)) == 0)) && r11) (gy_t rfl) (fun hg => x_mv (v := u0_92) rfl) ?_
 refine t_gbs (α := Int) T22 ((((((((r28 == 0) && (r210 == 0)) && (r212 == 0)) && (r214 == 0)) && r9) && r10) && (((r016.length : Int) + (r117.length : Int)) == 0)) && r11) (gy_t rfl) [I 0] [(0 : Int)] H (fun _ => rfl) (.cons rfl (Flat.rep_enc _ (0 : Int)) <| .nil) rfl rfl rfl ?_
 intro v217z Bs_97 w218z H hf219z
 obtain ⟨r20, hx220z, hM⟩ := M.e_bind hM
 refine t_gcall ((((((((r28 == 0) && (r210 == 0)) && (r212 == 0)) && (r214 == 0)) && r9) && r10) && (((r016.length : Int) + (r117.length : Int)) == 0)) && r11) (gy_t rfl) cf15 (B r20) (fun _ => [u0_92, v217z]) (fun hg => lst2 (gd_of (c := ((((((((r28 == 0) && (r210 == 0)) && (r212 == 0)) && (r214 == 0)) && r9) && r10) && (((r016.length : Int) + (r117.length : Int)) == 0)) && r11)) hg (u0_92)) (gd_of (c := ((((((((r28 == 0) && (r210 == 0)) && (r212 == 0)) && (r214 == 0)) && r9) && r10) && (((r016.length : Int) + (r117.length : Int)) == 0)) && r11)) hg (v217z))) H (fun hg => (zai r020 ([(0 : Int)]) (Reads.of (k := 4) rfl ownLe) (ownSl (H.get (k := 4) rfl)) (Reads.of (k := 0) rfl roLe) (hf219z hg) (M.e_opt hx220z hg) _ (H.give (A := []) rfl)).mono fun v_ w_ ⟨y_, hr_, hv_, H_⟩ => by subst hr_; exact ⟨hv_, H.via H_⟩) ?_
 intro w221z H
 refine s_val (x_pand (b := ((((((((r28 == 0) && (r210 == 0)) && (r212 == 0)) && (r214 == 0)) && r9) && r10) && (((r016.length : Int) + (r117.length : Int)) == 0)) && r11)) (r := r20) rfl (fun hb => gd_of (c := ((((((((r28 == 0) && (r210 == 0)) && (r212 == 0)) && (r214 == 0)) && r9) && r10) && (((r016.length : Int) + (r117.length : Int)) == 0)) && r11)) (by first | exact hb | (rw [hb]; rfl) | simp_all) (B r20)) rfl) ?_
 refine s_val (x_as (v := B (((((((((r28 == 0) && (r210 == 0)) && (r212 == 0)) && (r214 == 0)) && r9) && r10) && (((r016.length : Int) + (r117.length : Int)) == 0)) && r11) && r20)) rfl) ?_
 refine s_nil ?_
 replace H := H.pk []
 refine W.ret ?_
 have hr_ := M.e_pure hM
 exact ⟨_, resE_tmp rfl, ⟨(((((((((r28 == 0) && (r210 == 0)) && (r212 == 0)) && (r214 == 0)) && r9) && r10) && (((r016.length : Int) + (r117.length : Int)) == 0)) && r11) && r20), hr_, rfl, H⟩⟩

end Go.Proofs.YtbaehghammbjdaaGreat
end
namespace Go.Proofs.YtbaehghammbjdaaGreat
open Go Go.Nm
end Go.Proofs.YtbaehghammbjdaaGreat
namespace Go.Proofs.YtbaehghammbjdaaGreat
open Go Go.Nm
theorem awake_ends : (zbL).Ends true := ⟨300, by kernel_rfl⟩
end Go.Proofs.YtbaehghammbjdaaGreat
namespace Go.Nm
namespace Wn
/-- A river that is right. -/
structure Rv (dn : List Int) (tr : List Span) (sp : List Int) (tw : List Town) (dl dh : Int) (fl : List Flood) : Prop where
  n1 : 1 <= dn.length
  n12 : dn.length <= 12
  nx : Dn dn
  tl : tr.length = dn.length
  hr : ∀ i, i < tr.length -> 0 <= (tr.getD i default).lo /\ (tr.getD i default).lo <= (tr.getD i default).hi /\ (tr.getD i default).hi <= 1000
  s1 : 1 <= sp.length
  s8 : sp.length <= 8
  sr : sp.Pairwise (· < ·)
  si : ∀ x ∈ sp, 0 <= x /\ x < dn.length
  t8 : tw.length <= 8
  tok : ∀ t ∈ tw, (0 <= t.station /\ t.station < dn.length) /\ (0 <= t.lead /\ t.lead <= 1000) /\ 0 <= t.alarm /\ t.alarm <= 2000
  d0 : 0 <= dl
  d1 : dl <= dh
  d2 : dh <= 1000
  f20 : fl.length <= 20
  fok : ∀ f ∈ fl, f.spring ∈ sp /\ f.stages.length = (P dn f.spring).length /\ ∀ x ∈ f.stages, 0 <= x /\ x <= 2000
theorem sum_step {α : Type} (f : α -> Int) (l : List α) {i : Nat} (h : i < l.length) (d : α) : ((l.take (i + 1)).map f).sum = ((l.take i).map f).sum + f (l.getD i d) := by
  rw [List.take_succ_eq_append_getElem h, List.map_append, List.sum_append, List.map_cons, List.map_nil, List.sum_cons, List.sum_nil, Int.add_zero]
  congr 1
  rw [List.getD_eq_getElem?_getD, List.getElem?_eq_getElem h, Option.getD_some]
theorem sum_in {α : Type} (f : α -> Int) (l : List α) (hb : ∀ s ∈ l, -100000 <= f s /\ f s <= 100000) : -100000 * (l.length : Int) <= (l.map f).sum /\ (l.map f).sum <= 100000 * (l.length : Int) := by
  induction l with
  | nil => simp
  | cons a l ih =>
    have h1 := ih fun s hs => hb s (by simp [hs])
    have h2 := hb a (by simp)
    rw [List.map_cons, List.sum_cons, List.length_cons]
    omega
end Wn
end Go.Nm
namespace Go.Proofs.YtbaehghammbjdaaGreat
open Go Go.Nm
theorem added_ends (l : List Span) (hl : l.length <= 100) (hb : ∀ s ∈ l, (-100000 <= s.lo /\ s.lo <= 100000) /\ -100000 <= s.hi /\ s.hi <= 100000) : (zbu l).Ends ((l.map (·.lo)).sum, (l.map (·.hi)).sum) := by
  unfold zbu
  refine M.i_bind (a := ((l.map (·.lo)).sum, (l.map (·.hi)).sum)) ?_ M.i_pure
  refine M.Out.ends ?_
  refine M.o_for l.length (fun i (s : Int × Int × Nat) => s = (((l.take i).map (·.lo)).sum, ((l.take i).map (·.hi)).sum, i)) ?_ ?_ (by simp)
  · rintro i _ hi rfl
    simp only [za9]
    have a1 := Wn.sum_in (fun s : Span => s.lo) (l.take i) fun s hs => (hb s (List.mem_of_mem_take hs)).1
    have a2 := Wn.sum_in (fun s : Span => s.hi) (l.take i) fun s hs => (hb s (List.mem_of_mem_take hs)).2
    rw [List.length_take] at a1 a2
    have hm : l.getD i default ∈ l := by rw [List.getD_eq_getElem?_getD, List.getElem?_eq_getElem hi, Option.getD_some]; exact List.getElem_mem hi
    have a3 := hb _ hm
    refine M.o_t (decide_eq_true (by omega)) (M.o_grdD (by omega) (M.o_grd (gA2 (by omega) (by omega)) (M.o_grd (gA2 (by omega) (by omega)) (M.o_pure ?_))))
    rw [Wn.sum_step (fun s : Span => s.lo) l hi default, Wn.sum_step (fun s : Span => s.hi) l hi default]
  · rintro _ rfl
    simp only [za9]
    refine M.o_f (decide_eq_false (by omega)) (M.o_pure ?_)
    rw [List.take_length]
variable {dn : List Int} {tr : List Span} {sp : List Int} {tw : List Town} {dl dh : Int} {fl : List Flood}
/-- A round over a path. -/
theorem path_out {S X : Type} {bd : S -> Int × Int -> M (S ⊕ X)} {Q : S ⊕ X -> Prop} (h : Wn.Dn dn) (h12 : dn.length <= 12) {s : Int} (hs : Wn.Stn dn s) {s0 : S} (J : Nat -> S -> Prop) (h0 : J 0 s0)
    (hr : ∀ k (hk : k < (Wn.P dn s).length) t, J k t -> (bd t ((k : Int), (Wn.P dn s)[k])).Out (fun x => match x with | .inl t' => J (k + 1) t' | .inr x => Q (.inr x))) (hl : ∀ t, J (Wn.P dn s).length t -> Q (.inl t))
    (k11 : List Span) (k12 : List Int) (k13 : List Town) (k14 k15 : Int) (k16 : List Flood) : (zan (M.yl bd) (.inl s0) s dn k11 k12 k13 k14 k15 k16).Out (fun y => Q y.1) := by
  unfold zan
  refine M.o_bind (P := fun y => match y with | .inl t => Q t.1 | .inr t => Q t.1) ?_ (fun y hy => by
    cases y with
    | inl t => exact M.o_pure hy
    | inr t => exact M.o_pure hy)
  have hsh := Wn.P_short h hs
  refine M.o_for (Wn.P dn s).length (fun i (t : Int × Nat × (S ⊕ X)) => t.2.1 = i /\ (Wn.P dn t.1 = (Wn.P dn s).drop i /\ Wn.Stn dn t.1) /\ ∃ t', t.2.2 = .inl t' /\ J i t') ?_ ?_ ⟨rfl, ⟨by rw [List.drop_zero], hs⟩, s0, rfl, h0⟩
  · rintro i ⟨c, q, t⟩ hi ⟨e1, ⟨e2, e3⟩, t', e4, hj⟩
    dsimp only at e1 e2 e3 e4
    subst e1 e4
    simp only [zaY]
    have hd : (Wn.P dn s).drop q = (Wn.P dn s)[q] :: (Wn.P dn s).drop (q + 1) := List.drop_eq_getElem_cons hi
    have hc : 0 <= c /\ c < dn.length := by
      rcases e3 with rfl | e3
      · rw [Wn.P_none, hd] at e2
        cases e2
      · exact e3
    rw [Wn.P_cons h hc.1 hc.2, hd] at e2
    obtain ⟨g1, g2⟩ := List.cons.inj e2
    have hx := h.next hc.1 hc.2
    refine M.o_t (by rw [decide_eq_true hc.2]; simp; omega) ?_
    obtain ⟨x, y1, y2⟩ := hr q hi t' hj
    rw [← g1] at y1
    cases x with
    | inl s2 => exact M.o_bindE (a := (true, .inl s2)) (M.i_bind y1 M.i_pure) (M.o_f rfl (M.o_grd (gA2 hc.1 hc.2) (M.o_grd (gA2 (by omega) (by omega)) (M.o_pure ⟨rfl, ⟨g2, h.next_st hc.1 hc.2⟩, s2, rfl, y2⟩))))
    | inr x2 => exact M.o_bindE (a := (false, .inr x2)) (M.i_bind y1 M.i_pure) (M.o_t rfl (M.o_pure y2))
  · rintro ⟨c, q, t⟩ ⟨e1, ⟨e2, e3⟩, t', e4, hj⟩
    dsimp only at e1 e2 e3 e4
    subst e1 e4
    simp only [zaY]
    rw [List.drop_length] at e2
    have hc : c = -1 := by
      rcases e3 with e3 | e3
      · exact e3
      · rw [Wn.P_cons h e3.1 e3.2] at e2
        cases e2
    subst hc
    exact M.o_f (by simp) (M.o_pure (hl t' hj))
theorem travels_ends (R : Wn.Rv dn tr sp tw dl dh fl) {s : Int} (hs : Wn.Stn dn s) (y : Int) :
    (zat dn tr sp tw dl dh fl s y).Ends (if y ∈ Wn.P dn s then (Wn.sm (Wn.lo tr) (Wn.upto (Wn.P dn s) y), Wn.sm (Wn.hi tr) (Wn.upto (Wn.P dn s) y), true) else (0, 0, false)) := by
  refine M.Out.ends ?_
  unfold zat
  have hp : (zak dn tr sp tw dl dh fl s).Ends (s, dl, dh) := M.i_pure
  refine M.o_bindE hp ?_
  dsimp only
  have h12 := R.n12
  have hsh := Wn.P_short R.nx hs
  refine M.o_bind (path_out (Q := fun x => match x with | .inl _ => y ∉ Wn.P dn s | .inr (_, _, a, b) => y ∈ Wn.P dn s /\ a = Wn.sm (Wn.lo tr) (Wn.upto (Wn.P dn s) y) /\ b = Wn.sm (Wn.hi tr) (Wn.upto (Wn.P dn s) y)) R.nx R.n12 hs
    (fun k (l : List Span) => l = ((Wn.P dn s).take k).map (fun x => tr.getD (Int.toNat x) default) /\ y ∉ (Wn.P dn s).take k) ⟨by simp, by simp⟩ ?_ ?_ _ _ _ _ _ _) ?_
  · rintro k hk l ⟨rfl, hn⟩
    have hin := Wn.P_mem R.nx s hs _ (List.getElem_mem hk)
    have htl := R.tl
    simp only [zaI]
    refine M.o_if (fun hb => ?_) (fun hb => ?_)
    · have hb : (Wn.P dn s)[k] = y := by simpa using hb
      refine M.o_bindE (added_ends _ (by rw [List.length_map, List.length_take]; omega) fun sp_ hsp => ?_) (M.o_pure ?_)
      · obtain ⟨x, hx, rfl⟩ := List.mem_map.1 hsp
        have h1 := Wn.P_mem R.nx s hs x (List.mem_of_mem_take hx)
        have h2 := R.hr (Int.toNat x) (by omega)
        omega
      · have hu : Wn.upto (Wn.P dn s) y = (Wn.P dn s).take k := Wn.upto_take (by rw [List.getElem?_eq_getElem hk, hb]) fun z hz e => hn (by rw [← e]; exact hz)
        dsimp only
        rw [hu]
        refine ⟨by rw [← hb]; exact List.getElem_mem hk, ?_, ?_⟩
        · unfold Wn.sm
          rw [List.map_map]
          rfl
        · unfold Wn.sm
          rw [List.map_map]
          rfl
    · have hb : (Wn.P dn s)[k] ≠ y := by simpa using hb
      refine M.o_grd (gA2 (by omega) (by omega)) (M.o_grdD (by simp; omega) (M.o_pure ⟨?_, ?_⟩))
      · rw [List.take_succ_eq_append_getElem hk, List.map_append]
        rfl
      · rw [List.take_succ_eq_append_getElem hk, List.mem_append]
        rintro (h1 | h1)
        · exact hn h1
        · exact hb (List.mem_singleton.1 h1).symm
  · rintro l ⟨_, hn⟩
    rw [List.take_length] at hn
    exact hn
  · rintro ⟨x, q⟩ hq
    cases x with
    | inl l =>
      dsimp only at hq ⊢
      refine M.o_pure ?_
      rw [if_neg hq]
    | inr z =>
      obtain ⟨l2, l3, a, b⟩ := z
      dsimp only at hq ⊢
      refine M.o_pure ?_
      rw [if_pos hq.1, hq.2.1, hq.2.2]
theorem in_ends (n a b : Int) : (zac n a b).Ends (decide (a <= n) && decide (n <= b)) := M.i_pure
theorem in_true {n a b : Int} (h1 : a <= n) (h2 : n <= b) : (zac n a b).Ends true := by
  have := in_ends n a b
  rwa [gA2 h1 h2] at this
theorem hours_true {s : Span} (h0 : 0 <= s.lo) (h1 : s.lo <= s.hi) (h2 : s.hi <= 1000) : (zaJ s).Ends true := by
  unfold zaJ
  exact M.i_bind (in_true h0 h1) (M.i_bind (M.i_opt (fun _ => in_true (by omega) h2) (fun h => by cases h)) M.i_pure)
theorem stage_true {n : Int} (h0 : 0 <= n) (h1 : n <= 2000) : (zax n).Ends true := by
  unfold zax
  exact M.i_bind (in_true h0 h1) M.i_pure
theorem every_town (l : List Town) (so : Town -> M Bool) (h : ∀ t ∈ l, (so t).Ends true) : (zaK l so).Ends true := by
  unfold zaK zaP zbJ
  refine M.i_bind (a := false) (M.i_bind (a := -1) (M.i_bind (a := (.inr () : Int ⊕ Unit)) ?_ M.i_pure) M.i_pure) M.i_pure
  refine M.i_for (fun i => i) l.length (fun i hi => ?_) ?_
  · simp only [zaC]
    have hm : l.getD i default ∈ l := by rw [List.getD_eq_getElem?_getD, List.getElem?_eq_getElem hi, Option.getD_some]; exact List.getElem_mem hi
    refine M.i_t (decide_eq_true (by omega)) (M.i_grd (decide_eq_true (by omega)) (M.i_bind (a := false) ?_ (M.i_f rfl M.i_pure)))
    unfold zbq
    exact M.i_bind (h _ hm) M.i_pure
  · simp only [zaC]
    exact M.i_f (decide_eq_false (by omega)) M.i_pure
theorem every_int (l : List Int) (so : Int -> M Bool) (h : ∀ t ∈ l, (so t).Ends true) : (zaE l so).Ends true := by
  unfold zaE zbE zbA
  refine M.i_bind (a := false) (M.i_bind (a := -1) (M.i_bind (a := (.inr () : Int ⊕ Unit)) ?_ M.i_pure) M.i_pure) M.i_pure
  refine M.i_for (fun i => i) l.length (fun i hi => ?_) ?_
  · simp only [zaN]
    have hm : l.getD i 0 ∈ l := by rw [List.getD_eq_getElem?_getD, List.getElem?_eq_getElem hi, Option.getD_some]; exact List.getElem_mem hi
    refine M.i_t (decide_eq_true (by omega)) (M.i_grd (decide_eq_true (by omega)) (M.i_bind (a := false) ?_ (M.i_f rfl M.i_pure)))
    unfold zbb
    exact M.i_bind (h _ hm) M.i_pure
  · simp only [zaN]
    exact M.i_f (decide_eq_false (by omega)) M.i_pure
theorem contains_true {s : List Int} {v : Int} (h : v ∈ s) : (za6 s v).Ends true := by
  unfold za6 zbk
  have key : (M.iter (zaz s v) 0).Out (fun r => match r with | .inl i => 0 <= i | .inr (_ : Unit) => False) := by
    refine M.o_for s.length (fun i (k : Nat) => k = i /\ ∀ j, j < i -> s.getD j 0 ≠ v) ?_ ?_ ⟨rfl, fun j hj => by omega⟩
    · rintro i _ hi ⟨rfl, hp⟩
      simp only [zaz]
      refine M.o_t (decide_eq_true (by omega)) (M.o_grdD (by omega) (M.o_if (fun hb => M.o_pure (by omega)) (fun hb => M.o_pure ⟨rfl, fun j hj => ?_⟩)))
      rcases Nat.lt_or_eq_of_le (Nat.le_of_lt_succ hj) with e | e
      · exact hp j e
      · subst e
        exact fun e => (beq_eq_false_iff_ne.1 hb) e.symm
    · rintro _ ⟨rfl, hp⟩
      exfalso
      obtain ⟨i, hi, e⟩ := List.getElem_of_mem h
      have := hp i hi
      rw [List.getD_eq_getElem?_getD, List.getElem?_eq_getElem hi, Option.getD_some] at this
      exact this e
  obtain ⟨r, h1, h2⟩ := key
  cases r with
  | inl i => exact M.i_bind (M.i_bind h1 M.i_pure) (by rw [decide_eq_true h2]; exact M.i_pure)
  | inr u => exact h2.elim
theorem rising_true {l : List Int} {n : Int} (hn : 0 <= n /\ n <= 1000) (hu : l.Pairwise (· < ·)) (hb : ∀ x ∈ l, 0 <= x /\ x < n) : (zau l n).Ends true := by
  unfold zau
  refine M.i_bind (a := (.inr () : Unit ⊕ Unit)) ?_ M.i_pure
  refine M.Out.ends ?_
  refine M.o_for l.length (fun i (s : Int × Nat) => s.2 = i /\ -1 <= s.1 /\ s.1 < 1000 /\ ∀ j, i <= j -> j < l.length -> s.1 < l.getD j 0) ?_ ?_ ⟨rfl, by decide, by decide, fun j _ hj => ?_⟩
  · rintro i ⟨a, q⟩ hi ⟨e1, e2, e3, e4⟩
    dsimp only at e1 e2 e3 e4
    subst e1
    simp only [zaG]
    have hm : l.getD q 0 ∈ l := by rw [List.getD_eq_getElem?_getD, List.getElem?_eq_getElem hi, Option.getD_some]; exact List.getElem_mem hi
    have h1 := hb _ hm
    have h2 := e4 q (Nat.le_refl _) hi
    refine M.o_t (decide_eq_true (by omega)) (M.o_grdD (by omega) (M.o_grd (gA2 (by omega) (by omega)) (M.o_grd (gA2 (by omega) (by omega)) (M.o_bindE (in_true (by omega) (by omega)) (M.o_f rfl (M.o_pure ⟨rfl, by dsimp only; omega, by dsimp only; omega, fun j h3 h4 => ?_⟩))))))
    have := List.pairwise_iff_getElem.1 hu q j hi h4 (by omega)
    dsimp only
    rw [List.getD_eq_getElem?_getD, List.getElem?_eq_getElem hi, Option.getD_some, List.getD_eq_getElem?_getD, List.getElem?_eq_getElem h4, Option.getD_some]
    exact this
  · rintro ⟨a, q⟩ ⟨e1, _⟩
    dsimp only at e1
    subst e1
    simp only [zaG]
    exact M.o_f (decide_eq_false (by omega)) (M.o_pure rfl)
  · have hm : l.getD j 0 ∈ l := by rw [List.getD_eq_getElem?_getD, List.getElem?_eq_getElem hj, Option.getD_some]; exact List.getElem_mem hj
    have := hb _ hm
    dsimp only
    omega
theorem check_ends (R : Wn.Rv dn tr sp tw dl dh fl) : (zaq dn tr sp tw dl dh fl).Ends 0 := by
  have n1 := R.n1
  have n12 := R.n12
  have tl := R.tl
  have s1 := R.s1
  have s8 := R.s8
  have t8 := R.t8
  have f20 := R.f20
  unfold zaq
  refine M.i_bind (in_true (by omega) (by omega)) (M.i_bind (M.i_opt (fun _ => in_true (by omega) (by omega)) (fun h => by simp [tl] at h)) (M.i_f ?_ ?_))
  · rw [decide_eq_false (by omega), decide_eq_false (by omega), tl]
    simp
  refine M.i_bind (a := (.inr () : Int ⊕ Unit)) ?_ ?_
  · refine M.i_for (fun i => i) dn.length (fun i hi => ?_) ?_
    · simp only [zas]
      have h1 := R.nx i hi
      have h2 := R.hr i (by omega)
      refine M.i_t (decide_eq_true (by omega)) (M.i_grd (decide_eq_true (by omega)) ?_)
      by_cases e : dn.getD i 0 = -1
      · refine M.i_bind (a := false) (M.i_opt (fun h => by rw [e] at h; cases h) (fun _ => rfl)) (M.i_f (by rw [e]; rfl) (M.i_grd (decide_eq_true (by omega)) (M.i_bind (hours_true h2.1 h2.2.1 h2.2.2) (M.i_f rfl M.i_pure))))
      · refine M.i_bind (a := true) (M.i_opt (fun _ => in_true (by omega) (by omega)) (fun h => absurd (bne_eq_false_iff_eq.1 h) e)) (M.i_f (by simp) (M.i_grd (decide_eq_true (by omega)) (M.i_bind (hours_true h2.1 h2.2.1 h2.2.2) (M.i_f rfl M.i_pure))))
    · simp only [zas]
      exact M.i_f (decide_eq_false (by omega)) M.i_pure
  dsimp only
  refine M.i_bind (rising_true (by omega) R.sr R.si) (M.i_f rfl ?_)
  refine M.i_bind (every_town tw _ fun t ht => ?_) (M.i_bind (a := true) (M.i_opt (fun _ => every_town tw _ fun t ht => ?_) (fun h => by cases h)) (M.i_bind (a := true) (M.i_opt (fun _ => hours_true R.d0 R.d1 R.d2) (fun h => by cases h)) (M.i_f rfl ?_)))
  · have k := R.tok t ht
    unfold zaL
    exact M.i_bind (in_true k.2.1.1 k.2.1.2) (M.i_bind (M.i_opt (fun _ => stage_true k.2.2.1 k.2.2.2) (fun h => by cases h)) M.i_pure)
  · have k := R.tok t ht
    unfold zaF
    exact M.i_grd (gA2 (by omega) (by omega)) (M.i_bind (in_true k.1.1 (by omega)) M.i_pure)
  refine M.i_bind (a := (.inr () : Int ⊕ Unit)) ?_ M.i_pure
  refine M.Out.ends ?_
  refine M.o_for fl.length (fun i (k : Nat) => k = i) ?_ ?_ rfl
  · rintro _ i hi rfl
    simp only [zav]
    have hm : fl.getD i default ∈ fl := by rw [List.getD_eq_getElem?_getD, List.getElem?_eq_getElem hi, Option.getD_some]; exact List.getElem_mem hi
    obtain ⟨k1, k2, k3⟩ := R.fok _ hm
    have hs := R.si _ k1
    have hst : Wn.Stn dn (fl.getD i default).spring := .inr hs
    have hsh := Wn.P_short R.nx hst
    have hp : (zak dn tr sp tw dl dh fl (max 0 (fl.getD i default).spring)).Ends ((fl.getD i default).spring, dl, dh) := by
      rw [show max 0 (fl.getD i default).spring = (fl.getD i default).spring by omega]
      exact M.i_pure
    refine M.o_t (decide_eq_true (by omega)) (M.o_grdD (by omega) (M.o_bindE hp ?_))
    dsimp only
    refine M.o_bind (path_out (Q := fun x => x = (.inl ((Wn.P dn (fl.getD i default).spring).length : Int) : Int ⊕ Unit)) R.nx R.n12 hst (fun k (c : Int) => c = (k : Int)) rfl ?_ ?_ _ _ _ _ _ _) ?_
    · rintro k hk _ rfl
      simp only [zap]
      exact M.o_grd (gA2 (by omega) (by omega)) (M.o_pure (by omega))
    · rintro _ rfl
      rfl
    · rintro ⟨x, q⟩ hq
      dsimp only at hq
      subst hq
      dsimp only
      refine M.o_bindE (contains_true k1) (M.o_f (by rw [k2]; simp) (M.o_bindE (every_int _ _ fun x hx => stage_true (k3 x hx).1 (k3 x hx).2) (M.o_f rfl (M.o_pure rfl))))
  · rintro _ rfl
    simp only [zav]
    exact M.o_f (decide_eq_false (by omega)) (M.o_pure rfl)
theorem opened_ends (R : Wn.Rv dn tr sp tw dl dh fl) : (zal dn tr sp tw dl dh fl).Ends (.inr (dl, dh, 0)) := by
  unfold zal
  exact M.i_bind (check_ends R) (M.i_f rfl M.i_pure)
theorem station_true (R : Wn.Rv dn tr sp tw dl dh fl) {s : Int} (h0 : 0 <= s) (h1 : s < dn.length) : (zao dn tr sp tw dl dh fl s).Ends true := by
  unfold zao
  exact M.i_bind (in_true h0 (by omega)) M.i_pure
end Go.Proofs.YtbaehghammbjdaaGreat
