/- Part 3 of the texts on which the proof rests. Conditions: none. -/
import Derived.Test.YtclhljenjphofaaZC2
set_option linter.unusedVariables false
set_option linter.unusedSimpArgs false
set_option linter.unusedSectionVars false
section
set_option maxRecDepth 100000
set_option maxHeartbeats 16000000
namespace Go.Proofs.Ytclhljenjphofaa
open Go Go.Nm
def m_level_worked_b1 (n_Marks : Int) (s4 : Nat) : ((List Int) × Nat) -> M (((List Int) × Nat) ⊕ (List Int)) := fun (s, s2) =>
  bif decide ((s2 : Int) < n_Marks) then (
  M.grd (decide ((0 : Int) <= (s4 : Int)) && decide ((s4 : Int) < (13 : Int))) <|
  M.grd (decide ((0 : Int) <= (s2 : Int)) && decide ((s2 : Int) < (13 : Int))) <|
  M.grd (decide ((-9223372036854775808 : Int) <= ((s2 : Int) + 1)) && decide (((s2 : Int) + 1) <= (9223372036854775807 : Int))) <|
  M.pure (.inl (s.set (s4 * 13 + s2) 1099511627776, s2 + 1)))
  else (
  M.pure (.inr s))
def m_level_worked_b2 (n_Marks : Int) : ((List Int) × Nat) -> M (((List Int) × Nat) ⊕ (List Int)) := fun (s3, s4) =>
  bif decide ((s4 : Int) < n_Marks) then (
  M.bind (M.iter (m_level_worked_b1 n_Marks s4) (s3, 0)) fun l =>
  M.grd (decide ((0 : Int) <= (s4 : Int)) && decide ((s4 : Int) < (13 : Int))) <|
  M.grd (decide ((-9223372036854775808 : Int) <= ((s4 : Int) + 1)) && decide (((s4 : Int) + 1) <= (9223372036854775807 : Int))) <|
  M.pure (.inl (l.set (s4 * 13 + s4) 0, s4 + 1)))
  else (
  M.pure (.inr s3))
def m_level_worked_b3 (n_Marks : Int) (n_Lines : List Line) : ((List Int) × (List Leg) × Nat) -> M (((List Int) × (List Leg) × Nat) ⊕ ((List Int) × (List Leg))) := fun (s5, s6, s7) =>
  bif decide ((s7 : Int) < n_Marks) then (
  M.bind (m_level_survey_fill n_Marks n_Lines s5 s6 (s7 : Int)) fun (q2, q3) =>
  M.grd (decide ((-9223372036854775808 : Int) <= ((s7 : Int) + 1)) && decide (((s7 : Int) + 1) <= (9223372036854775807 : Int))) <|
  M.pure (.inl (q2, q3, s7 + 1)))
  else (
  M.pure (.inr (s5, s6)))
def m_level_worked (n_Marks : Int) (n_Lines : List Line) : M (Int × (List Int) × (List Leg)) :=
  M.bind (M.iter (m_level_worked_b2 n_Marks) (List.replicate 169 0, 0)) fun l2 =>
  M.bind (M.iter (m_level_worked_b3 n_Marks n_Lines) (l2, List.replicate 169 default, 0)) fun (l3, l4) =>
  M.pure (n_Marks, l3, l4)
theorem level_worked_ok {R : List Chunk} {C_n_Lines : Cells} {v_n_Lines : Value} (n_Marks : Int) (n_Lines : List Line) (hC_n_Lines : Reads R C_n_Lines) (hs_n_Lines : Sl C_n_Lines v_n_Lines n_Lines) {r : (Int × (List Int) × (List Leg))} (hM : (m_level_worked n_Marks n_Lines).Ends r) (w : World) (H : St w w [] R) : Ret Try.prog 62 #[.agg #[I n_Marks, v_n_Lines]] w fun v w' => ∃ (y0 : Int) (y1 : List Int) (y2 : List Leg) (nb0 : Nat), (y0, y1, y2) = r /\ v = .pointer (some ⟨nb0, 0, none⟩) /\ St w w' [cBlk nb0 (List.flatten [[I y0, v_n_Lines], encF (α := Int) y1, encF (α := Leg) y2]) 120] R /\ y1.length = 169 /\ y2.length = 169 := by
 refine ret_of_W Try.func62 rfl rfl rfl ?_
 refine W.seq ?_
 refine W.region rfl ?_
 refine t_box (v := .agg #[I n_Marks, v_n_Lines]) (cs := [I n_Marks, v_n_Lines]) H rfl rfl ?_
 intro b_1 w1z H
 refine s_val (x_as (v := .pointer none) rfl) ?_
 refine s_nil ?_
 refine W.seq ?_
 refine W.region rfl ?_
 refine s_val (x_ld (p := .pointer (some ⟨b_1, 0, none⟩)) (v := .agg #[I n_Marks, v_n_Lines]) rfl (ldb_ag (ds := [I n_Marks, v_n_Lines]) Ag25 Sz25 (H.blk (k := 0) rfl) rfl rfl)) ?_
 refine s_val (x_bld (ps := [(0, .agg #[I n_Marks, v_n_Lines])]) (zs := (List.flatten [[I 0, .slice none 0 0], encF (α := Int) (List.replicate 169 0), encF (α := Leg) (List.replicate 169 default)])) (L' := (List.flatten [[I n_Marks, v_n_Lines], encF (α := Int) (List.replicate 169 0), encF (α := Leg) (List.replicate 169 default)])) rfl Try.underlying120 Al120 rfl (Bd120 Try.underlying120) (.cons (cs := [I n_Marks, v_n_Lines]) rfl rfl rfl (by kernel_rfl) rfl <| .nil)) ?_
 refine t_box (v := .agg (List.flatten [[I n_Marks, v_n_Lines], encF (α := Int) (List.replicate 169 0), encF (α := Leg) (List.replicate 169 default)]).toArray) (cs := (List.flatten [[I n_Marks, v_n_Lines], encF (α := Int) (List.replicate 169 0), encF (α := Leg) (List.replicate 169 default)])) H rfl rfl ?_
 intro b_2 w2z H
 refine s_val (x_as (v := .pointer (some ⟨b_2, 0, none⟩)) rfl) ?_
 refine s_nil ?_
 refine W.seq ?_
 refine W.seq ?_
 refine W.region rfl ?_
 refine s_val (x_fa (a := .pointer (some ⟨b_1, 0, none⟩)) (v := .pointer (some ⟨b_1, 0, none⟩)) rfl (fa_blk (o := 0) Fd25_0 Sz3)) ?_
 refine s_val (x_ld (p := .pointer (some ⟨b_1, 0, none⟩)) (v := I n_Marks) rfl (ldb_sc Sc3 (H.blk (k := 1) rfl) rfl)) ?_
 refine s_val (x_mv (v := I 0) rfl) ?_
 refine s_nil ?_
 refine W.block ?_
 obtain ⟨ex3z, hi4z, hk5z⟩ := M.e_bind hM
 obtain ⟨m0_, hi4z⟩ := M.e_iter hi4z
 refine W.loop (fun m σ W => ∃ (s3 : List Int) (s4 : Nat) (ρ : Env), σ = upds ρ [(1, .pointer (some ⟨b_1, 0, none⟩)), (3, .pointer (some ⟨b_2, 0, none⟩)), (11, I n_Marks), (12, I (s4 : Int))] /\ M.iterN (m_level_worked_b2 n_Marks) m (s3, s4) = some ex3z /\ St w W [cBlk b_2 (List.flatten [[I n_Marks, v_n_Lines], encF (α := Int) s3, encF (α := Leg) (List.replicate 169 default)]) 120, cBlk b_1 [I n_Marks, v_n_Lines] 25] R /\ s3.length = 169) ?_ ?_
 ·exact ⟨_, List.replicate 169 0, 0, _, upds_of _ _ ⟨rfl, rfl, rfl, rfl, trivial⟩, hi4z, H, List.length_replicate⟩
 ·rintro m8z σ w6z ⟨s3, s4, ρ, rfl, hI7z, H, hl_s3⟩
  obtain ⟨m9z, lt10z, x11z, hM, hN12z⟩ := M.e_iterN hI7z
  simp only [m_level_worked_b2] at hM
  clear hI7z
  refine W.seq ?_
  refine W.region rfl ?_
  refine s_val (x_cmp (kd := .i64) (a := (s4 : Int)) (b := n_Marks) (r := decide ((s4 : Int) < n_Marks)) rfl rfl rfl) ?_
  refine s_nil ?_
  refine W.seq ?_
  refine W.cond (decide ((s4 : Int) < n_Marks)) rfl (fun c13z => ?_) (fun c13z => ?_)
  ·replace hM := M.e_t hM c13z
   simp only [decide_eq_true_eq, decide_eq_false_iff_not, beq_iff_eq, bne_iff_ne, beq_eq_false_iff_ne, bne_eq_false_iff_eq, ne_eq, Decidable.not_not] at c13z
   refine W.skip ?_
   refine W.seq ?_
   refine W.block ?_
   refine W.seq ?_
   refine W.region rfl ?_
   refine s_val (x_mv (v := I (s4 : Int)) rfl) ?_
   refine s_val (x_as (v := I (s4 : Int)) rfl) ?_
   refine s_nil ?_
   refine W.seq ?_
   refine W.seq ?_
   refine W.region rfl ?_
   refine s_val (x_fa (a := .pointer (some ⟨b_1, 0, none⟩)) (v := .pointer (some ⟨b_1, 0, none⟩)) rfl (fa_blk (o := 0) Fd25_0 Sz3)) ?_
   refine s_val (x_ld (p := .pointer (some ⟨b_1, 0, none⟩)) (v := I n_Marks) rfl (ldb_sc Sc3 (H.blk (k := 1) rfl) rfl)) ?_
   refine s_val (x_mv (v := I 0) rfl) ?_
   refine s_nil ?_
   refine W.block ?_
   obtain ⟨ex14z, hi15z, hk16z⟩ := M.e_bind hM
   obtain ⟨m0_, hi15z⟩ := M.e_iter hi15z
   refine W.loop (fun m σ W => ∃ (s : List Int) (s2 : Nat) (ρ : Env), σ = upds ρ [(1, .pointer (some ⟨b_1, 0, none⟩)), (3, .pointer (some ⟨b_2, 0, none⟩)), (4, I (s4 : Int)), (11, I n_Marks), (12, I (s4 : Int)), (16, I n_Marks), (17, I (s2 : Int))] /\ M.iterN (m_level_worked_b1 n_Marks s4) m (s, s2) = some ex14z /\ St w W [cBlk b_2 (List.flatten [[I n_Marks, v_n_Lines], encF (α := Int) s, encF (α := Leg) (List.replicate 169 default)]) 120, cBlk b_1 [I n_Marks, v_n_Lines] 25] R /\ s.length = 169) ?_ ?_
   ·exact ⟨_, s3, 0, _, upds_of _ _ ⟨rfl, rfl, rfl, rfl, rfl, rfl, rfl, trivial⟩, hi15z, H, hl_s3⟩
   ·rintro m19z σ w17z ⟨s, s2, ρ, rfl, hI18z, H, hl_s⟩
    obtain ⟨m20z, lt21z, x22z, hM, hN23z⟩ := M.e_iterN hI18z
    simp only [m_level_worked_b1] at hM
    clear hI18z
    refine W.seq ?_
    refine W.region rfl ?_
    refine s_val (x_cmp (kd := .i64) (a := (s2 : Int)) (b := n_Marks) (r := decide ((s2 : Int) < n_Marks)) rfl rfl rfl) ?_
    refine s_nil ?_
    refine W.seq ?_
    refine W.cond (decide ((s2 : Int) < n_Marks)) rfl (fun c24z => ?_) (fun c24z => ?_)
    ·replace hM := M.e_t hM c24z
     simp only [decide_eq_true_eq, decide_eq_false_iff_not, beq_iff_eq, bne_iff_ne, beq_eq_false_iff_ne, bne_eq_false_iff_eq, ne_eq, Decidable.not_not] at c24z
     refine W.skip ?_
     refine W.seq ?_
     refine W.block ?_
     refine W.seq ?_
     refine W.region rfl ?_
     refine s_val (x_mv (v := I (s2 : Int)) rfl) ?_
     refine s_val (x_as (v := I (s2 : Int)) rfl) ?_
     refine s_nil ?_
     refine W.region rfl ?_
     refine s_val (x_mv (v := .pointer (some ⟨b_2, 0, none⟩)) rfl) ?_
     refine s_val (x_mv (v := I (s4 : Int)) rfl) ?_
     refine s_val (x_mv (v := I (s2 : Int)) rfl) ?_
     refine s_val (x_nc (a := ⟨b_2, 0, none⟩) rfl) ?_
     refine s_val (x_fa (a := .pointer (some ⟨b_2, 0, none⟩)) (v := .pointer (some ⟨b_2, 2, none⟩)) rfl (fa_blk (o := 0) Fd120_1 Sz116)) ?_
     obtain ⟨sd25z, hM⟩ := M.e_grd hM
     simp only [Bool.and_eq_true, decide_eq_true_eq] at sd25z
     refine s_val (x_ix (a := .pointer (some ⟨b_2, 2, none⟩)) (b := I (s4 : Int)) (v := .pointer (some ⟨b_2, 2 + Int.toNat (s4 : Int) * 13, none⟩)) rfl rfl (run_indexS Try.underlying116 Sz114 (by omega) (by omega))) ?_
     obtain ⟨sd26z, hM⟩ := M.e_grd hM
     simp only [Bool.and_eq_true, decide_eq_true_eq] at sd26z
     refine s_val (x_ix (a := .pointer (some ⟨b_2, 2 + Int.toNat (s4 : Int) * 13, none⟩)) (b := I (s2 : Int)) (v := .pointer (some ⟨b_2, (2 + Int.toNat (s4 : Int) * 13) + Int.toNat (s2 : Int) * 1, none⟩)) rfl rfl (run_indexS Try.underlying114 Sz3 (by omega) (by omega))) ?_
     refine t_stS (α := Int) (kc := 0) (b := b_2) (k := 1) (off := 2) (i := s4 * 13 + s2) (f := 0) (sz := 1) (segs := [[I n_Marks, v_n_Lines], encF (α := Int) s, encF (α := Leg) (List.replicate 169 default)]) (segs' := [[I n_Marks, v_n_Lines], encF (α := Int) (s.set (s4 * 13 + s2) 1099511627776), encF (α := Leg) (List.replicate 169 default)]) (l := s) (l' := s.set (s4 * 13 + s2) 1099511627776) (vs := [I 1099511627776]) (L' := [cBlk b_2 (List.flatten [[I n_Marks, v_n_Lines], encF (α := Int) (s.set (s4 * 13 + s2) 1099511627776), encF (α := Leg) (List.replicate 169 default)]) 120, cBlk b_1 [I n_Marks, v_n_Lines] 25]) H rfl rfl rfl Sz3 rfl rfl rfl rfl (sgo1 rfl) rfl rfl (by have hl_ := hl_s; omega) (by omega) 0 1099511627776 rfl rfl rfl rfl ?_
     intro w27z H
     have hl28z : (s.set (s4 * 13 + s2) 1099511627776).length = 169 := List.length_set.trans hl_s
     refine s_nil ?_
     refine W.region rfl ?_
     obtain ⟨sd29z, hM⟩ := M.e_grd hM
     simp only [Bool.and_eq_true, decide_eq_true_eq] at sd29z
     refine s_val (x_ari (a := (s2 : Int)) (b := 1) (r := (s2 : Int) + 1) rfl rfl rfl (by omega)) ?_
     refine s_val (x_mv (v := I ((s2 : Int) + 1)) rfl) ?_
     refine s_nil ?_
     exact ⟨m20z, lt21z, s.set (s4 * 13 + s2) 1099511627776, s2 + 1, _, upds_of _ _ ⟨rfl, rfl, rfl, rfl, rfl, rfl, rfl, trivial⟩, M.e_inl hM hN23z, H, hl28z⟩
    ·replace hM := M.e_f hM c24z
     simp only [decide_eq_true_eq, decide_eq_false_iff_not, beq_iff_eq, bne_iff_ne, beq_eq_false_iff_ne, bne_eq_false_iff_eq, ne_eq, Decidable.not_not] at c24z
     refine W.exit ?_
     have hX30z := M.e_inr hM hN23z
     subst hX30z
     replace hM := hk16z
     try dsimp only at hM
     refine W.region rfl ?_
     refine s_val (x_mv (v := .pointer (some ⟨b_2, 0, none⟩)) rfl) ?_
     refine s_val (x_mv (v := I (s4 : Int)) rfl) ?_
     refine s_val (x_mv (v := I (s4 : Int)) rfl) ?_
     refine s_val (x_nc (a := ⟨b_2, 0, none⟩) rfl) ?_
     refine s_val (x_fa (a := .pointer (some ⟨b_2, 0, none⟩)) (v := .pointer (some ⟨b_2, 2, none⟩)) rfl (fa_blk (o := 0) Fd120_1 Sz116)) ?_
     obtain ⟨sd31z, hM⟩ := M.e_grd hM
     simp only [Bool.and_eq_true, decide_eq_true_eq] at sd31z
     refine s_val (x_ix (a := .pointer (some ⟨b_2, 2, none⟩)) (b := I (s4 : Int)) (v := .pointer (some ⟨b_2, 2 + Int.toNat (s4 : Int) * 13, none⟩)) rfl rfl (run_indexS Try.underlying116 Sz114 (by omega) (by omega))) ?_
     refine s_val (x_ix (a := .pointer (some ⟨b_2, 2 + Int.toNat (s4 : Int) * 13, none⟩)) (b := I (s4 : Int)) (v := .pointer (some ⟨b_2, (2 + Int.toNat (s4 : Int) * 13) + Int.toNat (s4 : Int) * 1, none⟩)) rfl rfl (run_indexS Try.underlying114 Sz3 (by omega) (by omega))) ?_
     refine t_stS (α := Int) (kc := 0) (b := b_2) (k := 1) (off := 2) (i := s4 * 13 + s4) (f := 0) (sz := 1) (segs := [[I n_Marks, v_n_Lines], encF (α := Int) s, encF (α := Leg) (List.replicate 169 default)]) (segs' := [[I n_Marks, v_n_Lines], encF (α := Int) (s.set (s4 * 13 + s4) 0), encF (α := Leg) (List.replicate 169 default)]) (l := s) (l' := s.set (s4 * 13 + s4) 0) (vs := [I 0]) (L' := [cBlk b_2 (List.flatten [[I n_Marks, v_n_Lines], encF (α := Int) (s.set (s4 * 13 + s4) 0), encF (α := Leg) (List.replicate 169 default)]) 120, cBlk b_1 [I n_Marks, v_n_Lines] 25]) H rfl rfl rfl Sz3 rfl rfl rfl rfl (sgo1 rfl) rfl rfl (by have hl_ := hl_s; omega) (by omega) 0 0 rfl rfl rfl rfl ?_
     intro w32z H
     have hl33z : (s.set (s4 * 13 + s4) 0).length = 169 := List.length_set.trans hl_s
     refine s_nil ?_
     refine W.region rfl ?_
     obtain ⟨sd34z, hM⟩ := M.e_grd hM
     simp only [Bool.and_eq_true, decide_eq_true_eq] at sd34z
     refine s_val (x_ari (a := (s4 : Int)) (b := 1) (r := (s4 : Int) + 1) rfl rfl rfl (by omega)) ?_
     refine s_val (x_mv (v := I ((s4 : Int) + 1)) rfl) ?_
     refine s_nil ?_
     exact ⟨m9z, lt10z, s.set (s4 * 13 + s4) 0, s4 + 1, _, upds_of _ _ ⟨rfl, rfl, rfl, rfl, trivial⟩, M.e_inl hM hN12z, H, hl33z⟩
  ·replace hM := M.e_f hM c13z
   simp only [decide_eq_true_eq, decide_eq_false_iff_not, beq_iff_eq, bne_iff_ne, beq_eq_false_iff_ne, bne_eq_false_iff_eq, ne_eq, Decidable.not_not] at c13z
   refine W.exit ?_
   have hX35z := M.e_inr hM hN12z
   subst hX35z
   replace hM := hk5z
   try dsimp only at hM
   refine W.seq ?_
   refine W.seq ?_
   refine W.region rfl ?_
   refine s_val (x_fa (a := .pointer (some ⟨b_1, 0, none⟩)) (v := .pointer (some ⟨b_1, 0, none⟩)) rfl (fa_blk (o := 0) Fd25_0 Sz3)) ?_
   refine s_val (x_ld (p := .pointer (some ⟨b_1, 0, none⟩)) (v := I n_Marks) rfl (ldb_sc Sc3 (H.blk (k := 1) rfl) rfl)) ?_
   refine s_val (x_mv (v := I 0) rfl) ?_
   refine s_nil ?_
   refine W.block ?_
   obtain ⟨ex36z, hi37z, hk38z⟩ := M.e_bind hM
   obtain ⟨m0_, hi37z⟩ := M.e_iter hi37z
   refine W.loop (fun m σ W => ∃ (s5 : List Int) (s6 : List Leg) (s7 : Nat) (ρ : Env), σ = upds ρ [(3, .pointer (some ⟨b_2, 0, none⟩)), (37, I n_Marks), (38, I (s7 : Int))] /\ M.iterN (m_level_worked_b3 n_Marks n_Lines) m (s5, s6, s7) = some ex36z /\ St w W [cBlk b_2 (List.flatten [[I n_Marks, v_n_Lines], encF (α := Int) s5, encF (α := Leg) s6]) 120, cBlk b_1 [I n_Marks, v_n_Lines] 25] R /\ s5.length = 169 /\ s6.length = 169) ?_ ?_
   ·exact ⟨_, s3, List.replicate 169 default, 0, _, upds_of _ _ ⟨rfl, rfl, rfl, trivial⟩, hi37z, H, hl_s3, List.length_replicate⟩
   ·rintro m41z σ w39z ⟨s5, s6, s7, ρ, rfl, hI40z, H, hl_s5, hl_s6⟩
    obtain ⟨m42z, lt43z, x44z, hM, hN45z⟩ := M.e_iterN hI40z
    simp only [m_level_worked_b3] at hM
    clear hI40z
    refine W.seq ?_
    refine W.region rfl ?_
    refine s_val (x_cmp (kd := .i64) (a := (s7 : Int)) (b := n_Marks) (r := decide ((s7 : Int) < n_Marks)) rfl rfl rfl) ?_
    refine s_nil ?_
    refine W.seq ?_
    refine W.cond (decide ((s7 : Int) < n_Marks)) rfl (fun c46z => ?_) (fun c46z => ?_)
    ·replace hM := M.e_t hM c46z
     simp only [decide_eq_true_eq, decide_eq_false_iff_not, beq_iff_eq, bne_iff_ne, beq_eq_false_iff_ne, bne_eq_false_iff_eq, ne_eq, Decidable.not_not] at c46z
     refine W.skip ?_
     refine W.seq ?_
     refine W.block ?_
     refine W.seq ?_
     refine W.region rfl ?_
     refine s_val (x_mv (v := I (s7 : Int)) rfl) ?_
     refine s_val (x_as (v := I (s7 : Int)) rfl) ?_
     refine s_nil ?_
     refine W.region rfl ?_
     refine s_val (x_mv (v := .pointer (some ⟨b_2, 0, none⟩)) rfl) ?_
     refine s_val (x_mv (v := I (s7 : Int)) rfl) ?_
     obtain ⟨r48z, hx47z, hM⟩ := M.e_bind hM
     refine s_call cf92 [.pointer (some ⟨b_2, 0, none⟩), I (s7 : Int)] rfl (level_survey_fill_ok n_Marks n_Lines s5 s6 (s7 : Int) (hC_n_Lines.app _) hs_n_Lines hl_s5 hl_s6 hx47z _ (St.give (T := [cBlk b_1 [I n_Marks, v_n_Lines] 25]) H rfl)) ?_
     rintro vq w49z ⟨q2, q3, hr50z, hvq, H2_, hf51z, hf52z⟩
     subst hr50z
     subst vq
     try dsimp only at hM
     replace H : St w w49z [cBlk b_2 (List.flatten [[I n_Marks, v_n_Lines], encF (α := Int) q2, encF (α := Leg) q3]) 120, cBlk b_1 [I n_Marks, v_n_Lines] 25] R := H.back H2_ rfl
     clear H2_
     refine s_nil ?_
     refine W.region rfl ?_
     obtain ⟨sd53z, hM⟩ := M.e_grd hM
     simp only [Bool.and_eq_true, decide_eq_true_eq] at sd53z
     refine s_val (x_ari (a := (s7 : Int)) (b := 1) (r := (s7 : Int) + 1) rfl rfl rfl (by omega)) ?_
     refine s_val (x_mv (v := I ((s7 : Int) + 1)) rfl) ?_
     refine s_nil ?_
     exact ⟨m42z, lt43z, q2, q3, s7 + 1, _, upds_of _ _ ⟨rfl, rfl, rfl, trivial⟩, M.e_inl hM hN45z, H, hf51z, hf52z⟩
    ·replace hM := M.e_f hM c46z
     simp only [decide_eq_true_eq, decide_eq_false_iff_not, beq_iff_eq, bne_iff_ne, beq_eq_false_iff_ne, bne_eq_false_iff_eq, ne_eq, Decidable.not_not] at c46z
     refine W.exit ?_
     have hX54z := M.e_inr hM hN45z
     subst hX54z
     replace hM := hk38z
     try dsimp only at hM
     refine W.seq ?_
     refine W.region rfl ?_
     refine s_val (x_mv (v := .pointer (some ⟨b_2, 0, none⟩)) rfl) ?_
     refine s_val (x_as (v := .pointer (some ⟨b_2, 0, none⟩)) rfl) ?_
     refine s_nil ?_
     refine W.ret ?_
     have hr_ := M.e_pure hM
     exact ⟨_, resE_tmp rfl, ⟨n_Marks, s5, s6, b_2, hr_, rfl, (H.pick [0] (by decide) rfl), hl_s5, hl_s6⟩⟩

def m_level_opened (n_Marks : Int) (n_Lines : List Line) : M (Int ⊕ (Int × (List Int) × (List Leg) × Int)) :=
  M.bind (m_level_Check n_Marks n_Lines) fun r2 =>
  bif r2 != 0 then (
  M.pure (.inl r2))
  else (
  M.bind (m_level_worked n_Marks n_Lines) fun (r0, r22, r3) =>
  M.pure (.inr (r0, r22, r3, 0)))
theorem level_opened_ok {R : List Chunk} {C_n_Lines : Cells} {v_n_Lines : Value} (n_Marks : Int) (n_Lines : List Line) (hC_n_Lines : Reads R C_n_Lines) (hs_n_Lines : Sl C_n_Lines v_n_Lines n_Lines) {r : (Int ⊕ (Int × (List Int) × (List Leg) × Int))} (hM : (m_level_opened n_Marks n_Lines).Ends r) (w : World) (H : St w w [] R) : Ret Try.prog 59 #[.agg #[I n_Marks, v_n_Lines]] w fun v w' => (∃ (y0 : Int), (.inl y0) = r /\ v = .tuple #[.pointer none, I y0] /\ St w w' [] R) ∨ (∃ (y0 : Int) (y1 : List Int) (y2 : List Leg) (y3 : Int) (nb0 : Nat), (.inr (y0, y1, y2, y3)) = r /\ v = .tuple #[.pointer (some ⟨nb0, 0, none⟩), I y3] /\ St w w' [cBlk nb0 (List.flatten [[I y0, v_n_Lines], encF (α := Int) y1, encF (α := Leg) y2]) 120] R /\ y1.length = 169 /\ y2.length = 169) := by
 refine ret_of_W Try.func59 rfl rfl rfl ?_
 refine W.seq ?_
 refine W.region rfl ?_
 refine t_box (v := .agg #[I n_Marks, v_n_Lines]) (cs := [I n_Marks, v_n_Lines]) H rfl rfl ?_
 intro b_1 w1z H
 refine s_val (x_as (v := .pointer none) rfl) ?_
 refine s_val (x_as (v := I 0) rfl) ?_
 refine s_nil ?_
 refine W.seq ?_
 refine W.seq ?_
 refine W.region rfl ?_
 refine s_val (x_ld (p := .pointer (some ⟨b_1, 0, none⟩)) (v := .agg #[I n_Marks, v_n_Lines]) rfl (ldb_ag (ds := [I n_Marks, v_n_Lines]) Ag25 Sz25 (H.blk (k := 0) rfl) rfl rfl)) ?_
 obtain ⟨r3z, hx2z, hM⟩ := M.e_bind hM
 refine s_call cf37 [.agg #[I n_Marks, v_n_Lines]] rfl (level_Check_ok n_Marks n_Lines (hC_n_Lines.app _) hs_n_Lines hx2z _ (St.give (T := [cBlk b_1 [I n_Marks, v_n_Lines] 25]) H rfl)) ?_
 rintro vq w4z ⟨r2, hr5z, hvq, H2_⟩
 subst hr5z
 subst vq
 try dsimp only at hM
 replace H : St w w4z [cBlk b_1 [I n_Marks, v_n_Lines] 25] R := H.back H2_ rfl
 clear H2_
 refine s_val (x_as (v := I r2) rfl) ?_
 refine s_nil ?_
 refine W.seq ?_
 refine W.region rfl ?_
 refine s_val (x_mv (v := I r2) rfl) ?_
 refine s_val (x_cmp (kd := .i64) (a := r2) (b := 0) (r := r2 != 0) rfl rfl rfl) ?_
 refine s_nil ?_
 refine W.cond (r2 != 0) rfl (fun c6z => ?_) (fun c6z => ?_)
 ·replace hM := M.e_t hM c6z
  simp only [decide_eq_true_eq, decide_eq_false_iff_not, beq_iff_eq, bne_iff_ne, beq_eq_false_iff_ne, bne_eq_false_iff_eq, ne_eq, Decidable.not_not] at c6z
  refine W.seq ?_
  refine W.region rfl ?_
  refine s_val (x_mv (v := I r2) rfl) ?_
  refine s_val (x_as (v := .pointer none) rfl) ?_
  refine s_val (x_as (v := I r2) rfl) ?_
  refine s_nil ?_
  refine W.ret ?_
  have hr_ := M.e_pure hM
  exact ⟨_, resE_tmp2 rfl, .inl (⟨r2, hr_, rfl, (H.pick [] (by decide) rfl)⟩)⟩
 ·replace hM := M.e_f hM c6z
  simp only [decide_eq_true_eq, decide_eq_false_iff_not, beq_iff_eq, bne_iff_ne, beq_eq_false_iff_ne, bne_eq_false_iff_eq, ne_eq, Decidable.not_not] at c6z
  refine W.skip ?_
  refine W.seq ?_
  refine W.region rfl ?_
  refine s_val (x_ld (p := .pointer (some ⟨b_1, 0, none⟩)) (v := .agg #[I n_Marks, v_n_Lines]) rfl (ldb_ag (ds := [I n_Marks, v_n_Lines]) Ag25 Sz25 (H.blk (k := 0) rfl) rfl rfl)) ?_
  obtain ⟨r8z, hx7z, hM⟩ := M.e_bind hM
  refine s_call cf62 [.agg #[I n_Marks, v_n_Lines]] rfl (level_worked_ok n_Marks n_Lines (hC_n_Lines.app _) hs_n_Lines hx7z _ (St.give (T := [cBlk b_1 [I n_Marks, v_n_Lines] 25]) H rfl)) ?_
  rintro vq w9z ⟨r0, r22, r3, nb0_2, hr10z, hvq, H2_, hf11z, hf12z⟩
  subst hr10z
  subst vq
  try dsimp only at hM
  replace H : St w w9z [cBlk nb0_2 (List.flatten [[I r0, v_n_Lines], encF (α := Int) r22, encF (α := Leg) r3]) 120, cBlk b_1 [I n_Marks, v_n_Lines] 25] R := H.back H2_ rfl
  clear H2_
  refine s_val (x_as (v := .pointer (some ⟨nb0_2, 0, none⟩)) rfl) ?_
  refine s_val (x_as (v := I 0) rfl) ?_
  refine s_nil ?_
  refine W.ret ?_
  have hr_ := M.e_pure hM
  exact ⟨_, resE_tmp2 rfl, .inr (⟨r0, r22, r3, 0, nb0_2, hr_, rfl, (H.pick [0] (by decide) rfl), hf11z, hf12z⟩)⟩

def m_level_survey_open_b4 (w__Net_Marks : Int) (w__Net_Lines : List Line) (w__can : List Int) (s2 : Nat) (x : Leg) : Nat -> M (Nat ⊕ (Unit ⊕ Unit)) := fun s =>
  bif decide ((s : Int) < w__Net_Marks) then (
  M.grd (decide ((0 : Int) <= (s : Int)) && decide ((s : Int) < (13 : Int))) <|
  M.grd (decide ((0 : Int) <= (s2 : Int)) && decide ((s2 : Int) < (13 : Int))) <|
  M.bind (M.opt (decide ((w__can.getD (s * 13 + s2) 0) < 1099511627776)) (m_level_survey_rise w__Net_Marks w__Net_Lines x) 0) fun r2 =>
  M.grd ((!(decide ((w__can.getD (s * 13 + s2) 0) < 1099511627776)) || (decide ((-9223372036854775808 : Int) <= ((w__can.getD (s * 13 + s2) 0) + r2)) && decide (((w__can.getD (s * 13 + s2) 0) + r2) <= (9223372036854775807 : Int))))) <|
  M.bind (M.opt (decide ((w__can.getD (s * 13 + s2) 0) < 1099511627776)) (m_level_survey_goal w__Net_Marks w__Net_Lines x) 0) fun r3 =>
  M.grd ((!(decide ((w__can.getD (s * 13 + s2) 0) < 1099511627776)) || (decide ((0 : Int) <= r3) && decide (r3 < (13 : Int))))) <|
  bif ((decide ((w__can.getD (s * 13 + s2) 0) < 1099511627776)) && (decide (((w__can.getD (s * 13 + s2) 0) + r2) < (w__can.getD (s * 13 + (Int.toNat r3)) 0)))) then (
  M.pure (.inr (.inl ())))
  else (
  M.grd (decide ((-9223372036854775808 : Int) <= ((s : Int) + 1)) && decide (((s : Int) + 1) <= (9223372036854775807 : Int))) <|
  M.pure (.inl (s + 1))))
  else (
  M.pure (.inr (.inr ())))
def m_level_survey_open_b5 (w__Net_Marks : Int) (w__Net_Lines : List Line) (w__can : List Int) (s2 : Nat) : Unit -> Leg -> M (Unit ⊕ Unit) := fun (_ : Unit) x =>
  M.bind (M.iter (m_level_survey_open_b4 w__Net_Marks w__Net_Lines w__can s2 x) 0) fun x_ => match x_ with
  | (.inl (_ : Unit)) => (
  M.pure (.inr ()))
  | (.inr (_ : Unit)) => (
  M.pure (.inl ()))
def m_level_survey_open_b6 (w__Net_Marks : Int) (w__Net_Lines : List Line) (w__can : List Int) : Nat -> M (Nat ⊕ (Unit ⊕ Unit)) := fun s2 =>
  bif decide ((s2 : Int) < w__Net_Marks) then (
  M.bind (m_level_survey_legs w__Net_Marks w__Net_Lines (s2 : Int)) fun r10 =>
  M.bind (m_level_survey_legs_1 (M.yl (m_level_survey_open_b5 w__Net_Marks w__Net_Lines w__can s2)) (.inl ()) w__Net_Marks w__Net_Lines r10) fun x_ => match x_ with
  | .inl _ => (
  M.grd (decide ((0 : Int) <= (s2 : Int)) && decide ((s2 : Int) < (13 : Int))) <|
  bif decide ((w__can.getD (s2 * 13 + s2) 0) < 0) then (
  M.pure (.inr (.inl ())))
  else (
  M.grd (decide ((-9223372036854775808 : Int) <= ((s2 : Int) + 1)) && decide (((s2 : Int) + 1) <= (9223372036854775807 : Int))) <|
  M.pure (.inl (s2 + 1))))
  | .inr _ => (
  M.pure (.inr (.inl ()))))
  else (
  M.pure (.inr (.inr ())))
def m_level_survey_open (w__Net_Marks : Int) (w__Net_Lines : List Line) (w__can : List Int) (w__by : List Leg) : M Bool :=
  M.bind (M.iter (m_level_survey_open_b6 w__Net_Marks w__Net_Lines w__can) 0) fun x_ => match x_ with
  | (.inl (_ : Unit)) => (
  M.pure true)
  | (.inr (_ : Unit)) => (
  M.pure false)
theorem level_survey_open_ok {R : List Chunk} {b_w_ : Nat} {C_w__Net_Lines : Cells} {v_w__Net_Lines : Value} (w__Net_Marks : Int) (w__Net_Lines : List Line) (w__can : List Int) (w__by : List Leg) (hC_w__Net_Lines : Reads R C_w__Net_Lines) (hs_w__Net_Lines : Sl C_w__Net_Lines v_w__Net_Lines w__Net_Lines) (hl_w__can : w__can.length = 169) (hl_w__by : w__by.length = 169) (h_b_w_ : Has R (cBlk b_w_ (List.flatten [[I w__Net_Marks, v_w__Net_Lines], encF (α := Int) w__can, encF (α := Leg) w__by]) 120)) {r : Bool} (hM : (m_level_survey_open w__Net_Marks w__Net_Lines w__can w__by).Ends r) (w : World) (H : St w w [] R) : Ret Try.prog 60 #[.pointer (some ⟨b_w_, 0, none⟩)] w fun v w' => ∃ (y0 : Bool), y0 = r /\ v = B y0 /\ St w w' [] R := by
 refine ret_of_WD Try.func60 rfl rfl rfl ?_
 replace H : St w w [cMk ([])] R := H.mk0
 have hl_w__Net_Lines := hs_w__Net_Lines.len_le
 unfold m_level_survey_open at hM
 refine WD.seq ?_
 refine WD.of ?_
 refine W.region rfl ?_
 refine t_box (v := .pointer (some ⟨b_w_, 0, none⟩)) (cs := [.pointer (some ⟨b_w_, 0, none⟩)]) H rfl rfl ?_
 intro b_1 w1z H
 refine t_alloc (cs := [B false]) H Al4 rfl ?_
 intro b_2 w2z H
 refine s_nil ?_
 refine WD.seq ?_
 refine WD.seq ?_
 refine WD.of ?_
 refine W.region rfl ?_
 refine s_val (x_ld (p := .pointer (some ⟨b_1, 0, none⟩)) (v := .pointer (some ⟨b_w_, 0, none⟩)) rfl (ldb_sc Sc111 (H.blk (k := 1) rfl) rfl)) ?_
 refine s_val (x_nc (a := ⟨b_w_, 0, none⟩) rfl) ?_
 refine s_val (x_fa (a := .pointer (some ⟨b_w_, 0, none⟩)) (v := .pointer (some ⟨b_w_, 0, none⟩)) rfl (fa_blk (o := 0) Fd120_0 Sz25)) ?_
 refine s_val (x_fa (a := .pointer (some ⟨b_w_, 0, none⟩)) (v := .pointer (some ⟨b_w_, 0, none⟩)) rfl (fa_blk (o := 0) Fd25_0 Sz3)) ?_
 refine s_val (x_ld (p := .pointer (some ⟨b_w_, 0, none⟩)) (v := I w__Net_Marks) rfl (ldb_sc Sc3 (h_b_w_.blk H) rfl)) ?_
 refine s_val (x_mv (v := I 0) rfl) ?_
 refine s_nil ?_
 refine WD.block ?_
 obtain ⟨ex3z, hi4z, hk5z⟩ := M.e_bind hM
 obtain ⟨m0_, hi4z⟩ := M.e_iter hi4z
 refine WD.loop (fun m Ds6z σ W => ∃ (s2 : Nat) (ρ : Env), σ = upds ρ [(1, .pointer (some ⟨b_1, 0, none⟩)), (2, .pointer (some ⟨b_2, 0, none⟩)), (10, I w__Net_Marks), (11, I (s2 : Int))] /\ M.iterN (m_level_survey_open_b6 w__Net_Marks w__Net_Lines w__can) m s2 = some ex3z /\ St w W [cBlk b_2 [B false] 4, cBlk b_1 [.pointer (some ⟨b_w_, 0, none⟩)] 111, cMk Ds6z] R) ?_ ?_
 ·exact ⟨_, 0, _, upds_of _ _ ⟨rfl, rfl, rfl, rfl, trivial⟩, hi4z, H⟩
 ·rintro m9z Ds6z σ w7z ⟨s2, ρ, rfl, hI8z, H⟩
  obtain ⟨m10z, lt11z, x12z, hM, hN13z⟩ := M.e_iterN hI8z
  simp only [m_level_survey_open_b6] at hM
  clear hI8z
  refine WD.seq ?_
  refine WD.of ?_
  refine W.region rfl ?_
  refine s_val (x_cmp (kd := .i64) (a := (s2 : Int)) (b := w__Net_Marks) (r := decide ((s2 : Int) < w__Net_Marks)) rfl rfl rfl) ?_
  refine s_nil ?_
  refine WD.seq ?_
  refine WD.cond (decide ((s2 : Int) < w__Net_Marks)) rfl (fun c14z => ?_) (fun c14z => ?_)
  ·replace hM := M.e_t hM c14z
   simp only [decide_eq_true_eq, decide_eq_false_iff_not, beq_iff_eq, bne_iff_ne, beq_eq_false_iff_ne, bne_eq_false_iff_eq, ne_eq, Decidable.not_not] at c14z
   refine WD.of ?_
   refine W.skip ?_
   refine WD.seq ?_
   refine WD.block ?_
   refine WD.seq ?_
   refine WD.of ?_
   refine W.region rfl ?_
   refine s_val (x_mv (v := I (s2 : Int)) rfl) ?_
   refine t_alloc (cs := [I 0]) H Al3 rfl ?_
   intro b_3 w15z H
   refine t_st (k := 0) (b := b_3) (off := 0) (cs := [I 0]) (vs := [I (s2 : Int)]) (cs' := [I (s2 : Int)]) (v := I (s2 : Int)) (L' := [cBlk b_3 [I (s2 : Int)] 3, cBlk b_2 [B false] 4, cBlk b_1 [.pointer (some ⟨b_w_, 0, none⟩)] 111, cMk Ds6z]) H rfl rfl rfl Sz3 rfl rfl rfl rfl rfl rfl ?_
   intro w16z H
   refine s_nil ?_
   refine WD.seq ?_
   refine WD.seq ?_
   refine WD.of ?_
   refine W.region rfl ?_
   refine s_val (x_ld (p := .pointer (some ⟨b_1, 0, none⟩)) (v := .pointer (some ⟨b_w_, 0, none⟩)) rfl (ldb_sc Sc111 (H.blk (k := 2) rfl) rfl)) ?_
   refine s_val (x_ld (p := .pointer (some ⟨b_3, 0, none⟩)) (v := I (s2 : Int)) rfl (ldb_sc Sc3 (H.blk (k := 0) rfl) rfl)) ?_
   obtain ⟨r18z, hx17z, hM⟩ := M.e_bind hM
   refine s_call cf89 [.pointer (some ⟨b_w_, 0, none⟩), I (s2 : Int)] rfl (level_survey_legs_ok w__Net_Marks w__Net_Lines (s2 : Int) (hC_w__Net_Lines.app _) hs_w__Net_Lines (Fld.of (h_b_w_.app _) rfl) hx17z _ (St.give (T := [cBlk b_3 [I (s2 : Int)] 3, cBlk b_2 [B false] 4, cBlk b_1 [.pointer (some ⟨b_w_, 0, none⟩)] 111, cMk Ds6z]) H rfl)) ?_
   rintro vq w19z ⟨r10, nb0_4, nb1_5, hr20z, hvq, H2_⟩
   subst hr20z
   subst vq
   try dsimp only at hM
   replace H : St w w19z [cBlk nb0_4 [.pointer (some ⟨b_w_, 0, none⟩)] 111, cBlk nb1_5 [I r10] 3, cBlk b_3 [I (s2 : Int)] 3, cBlk b_2 [B false] 4, cBlk b_1 [.pointer (some ⟨b_w_, 0, none⟩)] 111, cMk Ds6z] R := H.back H2_ rfl
   clear H2_
   refine s_nil ?_
   refine WD.block ?_
   obtain ⟨t21z, hx22z, hM⟩ := M.e_bind hM
   refine WD.range (L := [cBlk b_2 [B false] 4, cBlk nb0_4 [.pointer (some ⟨b_w_, 0, none⟩)] 111, cBlk nb1_5 [I r10] 3, cBlk b_3 [I (s2 : Int)] 3, cBlk b_1 [.pointer (some ⟨b_w_, 0, none⟩)] 111]) [.pointer (some ⟨nb0_4, 0, none⟩), .pointer (some ⟨nb1_5, 0, none⟩)] (H.pick [5, 3, 0, 1, 2, 4] (by decide) rfl) rfl cf101 ?_
   intro l23z D24z r25z w26z hr27z H
   have hYC : YieldC Try.prog ([cMk (D24z :: Ds6z), cBlk nb0_4 [.pointer (some ⟨b_w_, 0, none⟩)] 111, cBlk nb1_5 [I r10] 3, cBlk b_3 [I (s2 : Int)] 3, cBlk b_1 [.pointer (some ⟨b_w_, 0, none⟩)] 111] ++ R) arLeg (yJ l23z r25z (fun _ Ls_ => Ls_ = [cBlk b_2 [B false] 4]) (fun _ Ls_ => Ls_ = [cBlk b_2 [B true] 4]) (fun _ => .ret)) (.func (.yield l23z) #[] #[]) (M.yl (m_level_survey_open_b5 w__Net_Marks w__Net_Lines w__can s2)) := by
    refine YieldC.mk2 hr27z (fun _ Ls_ => Ls_ = [cBlk b_2 [B false] 4]) (fun _ Ls_ => Ls_ = [cBlk b_2 [B true] 4]) (fun _ => .ret) (m_level_survey_open_b5 w__Net_Marks w__Net_Lines w__can s2) (by rintro _ _ h_; obtain ⟨rfl⟩ := h_; rfl) (by rintro _ _ h_; (obtain ⟨rfl⟩ := h_; rfl)) rfl (arLeg_len rfl) ?_
    intro C_ vs_ x hA_
    obtain rfl := hA_
    intro w R hR_ Ls_ s_ r hY_ hM H
    skip
    obtain ⟨rfl⟩ := hY_
    replace H : St w w [cBlk b_2 [B false] 4, cMk (D24z :: Ds6z), cBlk nb0_4 [.pointer (some ⟨b_w_, 0, none⟩)] 111, cBlk nb1_5 [I r10] 3, cBlk b_3 [I (s2 : Int)] 3, cBlk b_1 [.pointer (some ⟨b_w_, 0, none⟩)] 111] R := H
    refine W.region rfl ?_
    refine t_alloc (cs := [I 0, B false]) H Al91 rfl ?_
    intro b_6 w28z H
    refine t_st (k := 0) (b := b_6) (off := 0) (cs := [I 0, B false]) (vs := [I x.line, B x.back]) (cs' := [I x.line, B x.back]) (v := .agg #[I x.line, B x.back]) (L' := [cBlk b_6 [I x.line, B x.back] 91, cBlk b_2 [B false] 4, cMk (D24z :: Ds6z), cBlk nb0_4 [.pointer (some ⟨b_w_, 0, none⟩)] 111, cBlk nb1_5 [I r10] 3, cBlk b_3 [I (s2 : Int)] 3, cBlk b_1 [.pointer (some ⟨b_w_, 0, none⟩)] 111]) H rfl rfl rfl Sz91 rfl rfl rfl rfl rfl rfl ?_
    intro w29z H
    refine s_nil ?_
    refine ⟨rfl, [cBlk b_6 [I x.line, B x.back] 91], H.pick [0, 1, 2, 3, 4, 5, 6] (by decide) rfl, ?_⟩
    clear H hR_
    intro w R hR_ H
    replace hC_w__Net_Lines := hC_w__Net_Lines.sub hR_
    replace h_b_w_ := h_b_w_.sub hR_
    replace hM : (m_level_survey_open_b5 w__Net_Marks w__Net_Lines w__can s2 () x).Ends r := hM
    simp only [m_level_survey_open_b5] at hM
    replace H : St w w [cBlk b_6 [I x.line, B x.back] 91, cBlk b_2 [B false] 4, cMk (D24z :: Ds6z), cBlk nb0_4 [.pointer (some ⟨b_w_, 0, none⟩)] 111, cBlk nb1_5 [I r10] 3, cBlk b_3 [I (s2 : Int)] 3, cBlk b_1 [.pointer (some ⟨b_w_, 0, none⟩)] 111] R := H
    refine W.block ?_
    refine W.seq ?_
    refine W.region rfl ?_
    refine s_val (x_ld (p := .pointer (some ⟨b_1, 0, none⟩)) (v := .pointer (some ⟨b_w_, 0, none⟩)) rfl (ldb_sc Sc111 (H.blk (k := 6) rfl) rfl)) ?_
    refine s_val (x_nc (a := ⟨b_w_, 0, none⟩) rfl) ?_
    refine s_val (x_fa (a := .pointer (some ⟨b_w_, 0, none⟩)) (v := .pointer (some ⟨b_w_, 0, none⟩)) rfl (fa_blk (o := 0) Fd120_0 Sz25)) ?_
    refine s_val (x_fa (a := .pointer (some ⟨b_w_, 0, none⟩)) (v := .pointer (some ⟨b_w_, 0, none⟩)) rfl (fa_blk (o := 0) Fd25_0 Sz3)) ?_
    refine s_val (x_ld (p := .pointer (some ⟨b_w_, 0, none⟩)) (v := I w__Net_Marks) rfl (ldb_sc Sc3 (h_b_w_.blk H) rfl)) ?_
    refine s_val (x_mv (v := I 0) rfl) ?_
    refine s_nil ?_
    refine W.block ?_
    obtain ⟨ex30z, hi31z, hk32z⟩ := M.e_bind hM
    obtain ⟨m0_, hi31z⟩ := M.e_iter hi31z
    refine W.loop (fun m σ W => ∃ (s : Nat) (ρ : Env), σ = upds ρ [(1, .pointer (some ⟨b_1, 0, none⟩)), (2, .pointer (some ⟨b_2, 0, none⟩)), (3, .pointer (some ⟨b_3, 0, none⟩)), (4, .pointer (some ⟨b_6, 0, none⟩)), (22, I w__Net_Marks), (23, I (s : Int))] /\ M.iterN (m_level_survey_open_b4 w__Net_Marks w__Net_Lines w__can s2 x) m s = some ex30z /\ St w W [cBlk b_6 [I x.line, B x.back] 91, cBlk b_2 [B false] 4, cMk (D24z :: Ds6z), cBlk nb0_4 [.pointer (some ⟨b_w_, 0, none⟩)] 111, cBlk nb1_5 [I r10] 3, cBlk b_3 [I (s2 : Int)] 3, cBlk b_1 [.pointer (some ⟨b_w_, 0, none⟩)] 111] R) ?_ ?_
    ·exact ⟨_, 0, _, upds_of _ _ ⟨rfl, rfl, rfl, rfl, rfl, rfl, trivial⟩, hi31z, H⟩
    ·rintro m35z σ w33z ⟨s, ρ, rfl, hI34z, H⟩
     obtain ⟨m36z, lt37z, x38z, hM, hN39z⟩ := M.e_iterN hI34z
     simp only [m_level_survey_open_b4] at hM
     clear hI34z
     refine W.seq ?_
     refine W.region rfl ?_
     refine s_val (x_cmp (kd := .i64) (a := (s : Int)) (b := w__Net_Marks) (r := decide ((s : Int) < w__Net_Marks)) rfl rfl rfl) ?_
     refine s_nil ?_
     refine W.seq ?_
     refine W.cond (decide ((s : Int) < w__Net_Marks)) rfl (fun c40z => ?_) (fun c40z => ?_)
     ·replace hM := M.e_t hM c40z
      simp only [decide_eq_true_eq, decide_eq_false_iff_not, beq_iff_eq, bne_iff_ne, beq_eq_false_iff_ne, bne_eq_false_iff_eq, ne_eq, Decidable.not_not] at c40z
      refine W.skip ?_
      refine W.seq ?_
      refine W.block ?_
      refine W.seq ?_
      refine W.region rfl ?_
      refine s_val (x_mv (v := I (s : Int)) rfl) ?_
      refine s_val (x_as (v := I (s : Int)) rfl) ?_
      refine s_nil ?_
      refine W.seq ?_
      refine W.draw (fun W => St w W [cBlk b_6 [I x.line, B x.back] 91, cBlk b_2 [B false] 4, cMk (D24z :: Ds6z), cBlk nb0_4 [.pointer (some ⟨b_w_, 0, none⟩)] 111, cBlk nb1_5 [I r10] 3, cBlk b_3 [I (s2 : Int)] 3, cBlk b_1 [.pointer (some ⟨b_w_, 0, none⟩)] 111] R) [(0, true), (1, true), (2, true), (3, true), (4, true), (5, true), (6, true), (7, true), (8, true), (9, true), (10, true), (11, true), (12, true), (13, true), (14, true), (15, true), (16, true), (17, true), (18, true), (19, true), (22, true), (23, true), (24, true), (25, true), (27, true), (28, true), (29, true), (20, false), (21, true), (26, false), (30, true), (31, true), (32, true), (33, true)] mixed (by decide +kernel) rfl ?_
      intro w41z hx_
      replace H : St w w41z [cBlk b_6 [I x.line, B x.back] 91, cBlk b_2 [B false] 4, cMk (D24z :: Ds6z), cBlk nb0_4 [.pointer (some ⟨b_w_, 0, none⟩)] 111, cBlk nb1_5 [I r10] 3, cBlk b_3 [I (s2 : Int)] 3, cBlk b_1 [.pointer (some ⟨b_w_, 0, none⟩)] 111] R := H.ext hx_
      clear hx_
      refine ⟨(H.pick [0, 1, 2, 3, 4, 5, 6] (by decide) rfl), ?_⟩
      refine d_q rfl (fun w' H => x_ld (p := .pointer (some ⟨b_1, 0, none⟩)) (v := .pointer (some ⟨b_w_, 0, none⟩)) rfl (ldb_sc Sc111 (H.blk (k := 6) rfl) rfl)) ?_
      refine d_q rfl (fun w' H => x_mv (v := I (s : Int)) rfl) ?_
      refine d_q rfl (fun w' H => x_ld (p := .pointer (some ⟨b_3, 0, none⟩)) (v := I (s2 : Int)) rfl (ldb_sc Sc3 (H.blk (k := 5) rfl) rfl)) ?_
      refine d_q rfl (fun w' H => x_nc (a := ⟨b_w_, 0, none⟩) rfl) ?_
      refine d_q rfl (fun w' H => x_fa (a := .pointer (some ⟨b_w_, 0, none⟩)) (v := .pointer (some ⟨b_w_, 2, none⟩)) rfl (fa_blk (o := 0) Fd120_1 Sz116)) ?_
      obtain ⟨sd42z, hM⟩ := M.e_grd hM
      simp only [Bool.and_eq_true, decide_eq_true_eq] at sd42z
      refine d_q rfl (fun w' H => x_ix (a := .pointer (some ⟨b_w_, 2, none⟩)) (b := I (s : Int)) (v := .pointer (some ⟨b_w_, 2 + Int.toNat (s : Int) * 13, none⟩)) rfl rfl (run_indexS Try.underlying116 Sz114 (by omega) (by omega))) ?_
      obtain ⟨sd43z, hM⟩ := M.e_grd hM
      simp only [Bool.and_eq_true, decide_eq_true_eq] at sd43z
      refine d_q rfl (fun w' H => x_ix (a := .pointer (some ⟨b_w_, 2 + Int.toNat (s : Int) * 13, none⟩)) (b := I (s2 : Int)) (v := .pointer (some ⟨b_w_, (2 + Int.toNat (s : Int) * 13) + Int.toNat (s2 : Int) * 1, none⟩)) rfl rfl (run_indexS Try.underlying114 Sz3 (by omega) (by omega))) ?_
      refine d_q rfl (fun w' H => x_ld (p := .pointer (some ⟨b_w_, (2 + Int.toNat (s : Int) * 13) + Int.toNat (s2 : Int) * 1, none⟩)) (v := I (w__can.getD (s * 13 + s2) 0)) rfl (ldS (α := Int) (k := 1) (off := 2) (i := s * 13 + s2) (f := 0) (sz := 1) 0 Sc3 (h_b_w_.blk H) rfl (sgo1 rfl) rfl (by decide) (by have hl_ := hl_w__can; omega) (by omega) rfl)) ?_
      refine d_q rfl (fun w' H => x_cmp (kd := .i64) (a := w__can.getD (s * 13 + s2) 0) (b := 1099511627776) (r := decide ((w__can.getD (s * 13 + s2) 0) < 1099511627776)) rfl rfl rfl) ?_
      refine d_q rfl (fun w' H => x_mv (v := B (decide ((w__can.getD (s * 13 + s2) 0) < 1099511627776))) rfl) ?_
      refine d_qg (decide ((w__can.getD (s * 13 + s2) 0) < 1099511627776)) rfl (gy_t rfl) (fun hg => (fun w' H => x_ld (p := .pointer (some ⟨b_1, 0, none⟩)) (v := .pointer (some ⟨b_w_, 0, none⟩)) rfl (ldb_sc Sc111 (H.blk (k := 6) rfl) rfl))) ?_
      refine d_qg (decide ((w__can.getD (s * 13 + s2) 0) < 1099511627776)) rfl (gy_t rfl) (fun hg => (fun w' H => x_mv (v := I (s : Int)) rfl)) ?_
      refine d_qg (decide ((w__can.getD (s * 13 + s2) 0) < 1099511627776)) rfl (gy_t rfl) (fun hg => (fun w' H => x_ld (p := .pointer (some ⟨b_3, 0, none⟩)) (v := I (s2 : Int)) rfl (ldb_sc Sc3 (H.blk (k := 5) rfl) rfl))) ?_
      refine d_qg (decide ((w__can.getD (s * 13 + s2) 0) < 1099511627776)) rfl (gy_t rfl) (fun hg => (fun w' H => x_nc (a := ⟨b_w_, 0, none⟩) (gd_of (c := decide ((w__can.getD (s * 13 + s2) 0) < 1099511627776)) hg (.pointer (some ⟨b_w_, 0, none⟩))))) ?_
      refine d_qg (decide ((w__can.getD (s * 13 + s2) 0) < 1099511627776)) rfl (gy_t rfl) (fun hg => (fun w' H => x_fa (a := .pointer (some ⟨b_w_, 0, none⟩)) (v := .pointer (some ⟨b_w_, 2, none⟩)) (gd_of (c := decide ((w__can.getD (s * 13 + s2) 0) < 1099511627776)) hg (.pointer (some ⟨b_w_, 0, none⟩))) (fa_blk (o := 0) Fd120_1 Sz116))) ?_
      refine d_qg (decide ((w__can.getD (s * 13 + s2) 0) < 1099511627776)) rfl (gy_t rfl) (fun hg => (fun w' H => x_ix (a := .pointer (some ⟨b_w_, 2, none⟩)) (b := I (s : Int)) (v := .pointer (some ⟨b_w_, 2 + Int.toNat (s : Int) * 13, none⟩)) (gd_of (c := decide ((w__can.getD (s * 13 + s2) 0) < 1099511627776)) hg (.pointer (some ⟨b_w_, 2, none⟩))) (gd_of (c := decide ((w__can.getD (s * 13 + s2) 0) < 1099511627776)) hg (I (s : Int))) (run_indexS Try.underlying116 Sz114 (by first | omega | (have hx_ := hg; simp at hx_; omega)) (by first | omega | (have hx_ := hg; simp at hx_; omega))))) ?_
      refine d_qg (decide ((w__can.getD (s * 13 + s2) 0) < 1099511627776)) rfl (gy_t rfl) (fun hg => (fun w' H => x_ix (a := .pointer (some ⟨b_w_, 2 + Int.toNat (s : Int) * 13, none⟩)) (b := I (s2 : Int)) (v := .pointer (some ⟨b_w_, (2 + Int.toNat (s : Int) * 13) + Int.toNat (s2 : Int) * 1, none⟩)) (gd_of (c := decide ((w__can.getD (s * 13 + s2) 0) < 1099511627776)) hg (.pointer (some ⟨b_w_, 2 + Int.toNat (s : Int) * 13, none⟩))) (gd_of (c := decide ((w__can.getD (s * 13 + s2) 0) < 1099511627776)) hg (I (s2 : Int))) (run_indexS Try.underlying114 Sz3 (by first | omega | (have hx_ := hg; simp at hx_; omega)) (by first | omega | (have hx_ := hg; simp at hx_; omega))))) ?_
      refine d_qg (decide ((w__can.getD (s * 13 + s2) 0) < 1099511627776)) rfl (gy_t rfl) (fun hg => (fun w' H => x_ld (p := .pointer (some ⟨b_w_, (2 + Int.toNat (s : Int) * 13) + Int.toNat (s2 : Int) * 1, none⟩)) (v := I (w__can.getD (s * 13 + s2) 0)) (gd_of (c := decide ((w__can.getD (s * 13 + s2) 0) < 1099511627776)) hg (.pointer (some ⟨b_w_, (2 + Int.toNat (s : Int) * 13) + Int.toNat (s2 : Int) * 1, none⟩))) (ldS (α := Int) (k := 1) (off := 2) (i := s * 13 + s2) (f := 0) (sz := 1) 0 Sc3 (h_b_w_.blk H) rfl (sgo1 rfl) rfl (by decide) (by have hl_ := hl_w__can; first | omega | (have hx_ := hg; simp at hx_; omega)) (by omega) rfl))) ?_
      refine d_qg (decide ((w__can.getD (s * 13 + s2) 0) < 1099511627776)) rfl (gy_t rfl) (fun hg => (fun w' H => x_ld (p := .pointer (some ⟨b_1, 0, none⟩)) (v := .pointer (some ⟨b_w_, 0, none⟩)) rfl (ldb_sc Sc111 (H.blk (k := 6) rfl) rfl))) ?_
      refine d_qg (decide ((w__can.getD (s * 13 + s2) 0) < 1099511627776)) rfl (gy_t rfl) (fun hg => (fun w' H => x_ld (p := .pointer (some ⟨b_6, 0, none⟩)) (v := .agg #[I x.line, B x.back]) rfl (ldb_ag (ds := [I x.line, B x.back]) Ag91 Sz91 (H.blk (k := 0) rfl) rfl rfl))) ?_
      refine d_qg (decide ((w__can.getD (s * 13 + s2) 0) < 1099511627776)) rfl (gy_t rfl) (fun hg => (fun w' H => x_ld (p := .pointer (some ⟨b_1, 0, none⟩)) (v := .pointer (some ⟨b_w_, 0, none⟩)) rfl (ldb_sc Sc111 (H.blk (k := 6) rfl) rfl))) ?_
      refine d_qg (decide ((w__can.getD (s * 13 + s2) 0) < 1099511627776)) rfl (gy_t rfl) (fun hg => (fun w' H => x_mv (v := I (s : Int)) rfl)) ?_
      refine d_qg (decide ((w__can.getD (s * 13 + s2) 0) < 1099511627776)) rfl (gy_t rfl) (fun hg => (fun w' H => x_ld (p := .pointer (some ⟨b_1, 0, none⟩)) (v := .pointer (some ⟨b_w_, 0, none⟩)) rfl (ldb_sc Sc111 (H.blk (k := 6) rfl) rfl))) ?_
      refine d_qg (decide ((w__can.getD (s * 13 + s2) 0) < 1099511627776)) rfl (gy_t rfl) (fun hg => (fun w' H => x_ld (p := .pointer (some ⟨b_6, 0, none⟩)) (v := .agg #[I x.line, B x.back]) rfl (ldb_ag (ds := [I x.line, B x.back]) Ag91 Sz91 (H.blk (k := 0) rfl) rfl rfl))) ?_
      refine d_qg (decide ((w__can.getD (s * 13 + s2) 0) < 1099511627776)) rfl (gy_t rfl) (fun hg => (fun w' H => x_nc (a := ⟨b_w_, 0, none⟩) (gd_of (c := decide ((w__can.getD (s * 13 + s2) 0) < 1099511627776)) hg (.pointer (some ⟨b_w_, 0, none⟩))))) ?_
      refine d_qg (decide ((w__can.getD (s * 13 + s2) 0) < 1099511627776)) rfl (gy_t rfl) (fun hg => (fun w' H => x_fa (a := .pointer (some ⟨b_w_, 0, none⟩)) (v := .pointer (some ⟨b_w_, 2, none⟩)) (gd_of (c := decide ((w__can.getD (s * 13 + s2) 0) < 1099511627776)) hg (.pointer (some ⟨b_w_, 0, none⟩))) (fa_blk (o := 0) Fd120_1 Sz116))) ?_
      refine d_qg (decide ((w__can.getD (s * 13 + s2) 0) < 1099511627776)) rfl (gy_t rfl) (fun hg => (fun w' H => x_ix (a := .pointer (some ⟨b_w_, 2, none⟩)) (b := I (s : Int)) (v := .pointer (some ⟨b_w_, 2 + Int.toNat (s : Int) * 13, none⟩)) (gd_of (c := decide ((w__can.getD (s * 13 + s2) 0) < 1099511627776)) hg (.pointer (some ⟨b_w_, 2, none⟩))) (gd_of (c := decide ((w__can.getD (s * 13 + s2) 0) < 1099511627776)) hg (I (s : Int))) (run_indexS Try.underlying116 Sz114 (by first | omega | (have hx_ := hg; simp at hx_; omega)) (by first | omega | (have hx_ := hg; simp at hx_; omega))))) ?_
      refine d_l rfl ?_
      obtain ⟨r2, hx44z, hM⟩ := M.e_bind hM
      refine t_gcall (decide ((w__can.getD (s * 13 + s2) 0) < 1099511627776)) (gy_t rfl) cf85 (I r2) (fun _ => [.pointer (some ⟨b_w_, 0, none⟩), .agg #[I x.line, B x.back]]) (fun hg => lst2 (gd_of (c := decide ((w__can.getD (s * 13 + s2) 0) < 1099511627776)) hg (.pointer (some ⟨b_w_, 0, none⟩))) (gd_of (c := decide ((w__can.getD (s * 13 + s2) 0) < 1099511627776)) hg (.agg #[I x.line, B x.back]))) H (fun hg => (level_survey_rise_ok w__Net_Marks w__Net_Lines x (hC_w__Net_Lines.app _) hs_w__Net_Lines (Fld.of (h_b_w_.app _) rfl) (M.e_opt hx44z hg) _ (H.give (A := []) rfl)).mono fun v_ w_ ⟨y_, hr_, hv_, H_⟩ => by subst hr_; exact ⟨hv_, H.via H_⟩) ?_
      intro w45z H
      refine s_nil ⟨(H.pick [0, 1, 2, 3, 4, 5, 6] (by decide) rfl), ?_⟩
      obtain ⟨sd46z, hM⟩ := M.e_grd hM
      replace sd46z := M.imp_of sd46z
      simp only [Bool.and_eq_true, decide_eq_true_eq] at sd46z
      refine d_qg (decide ((w__can.getD (s * 13 + s2) 0) < 1099511627776)) rfl (gy_t rfl) (fun hg => (fun w' H => x_ari (a := w__can.getD (s * 13 + s2) 0) (b := r2) (r := (w__can.getD (s * 13 + s2) 0) + r2) (gd_of (c := decide ((w__can.getD (s * 13 + s2) 0) < 1099511627776)) hg (I (w__can.getD (s * 13 + s2) 0))) (gd_of (c := decide ((w__can.getD (s * 13 + s2) 0) < 1099511627776)) hg (I r2)) rfl (by have h1_ := sd46z.resolve_left (by rw [hg]; decide); first | exact h1_ | exact h1_.1 | exact h1_.2 | omega | (have hx_ := hg; simp at hx_; omega)))) ?_
      refine d_l rfl ?_
      obtain ⟨r3, hx47z, hM⟩ := M.e_bind hM
      refine t_gcall (decide ((w__can.getD (s * 13 + s2) 0) < 1099511627776)) (gy_t rfl) cf84 (I r3) (fun _ => [.pointer (some ⟨b_w_, 0, none⟩), .agg #[I x.line, B x.back]]) (fun hg => lst2 (gd_of (c := decide ((w__can.getD (s * 13 + s2) 0) < 1099511627776)) hg (.pointer (some ⟨b_w_, 0, none⟩))) (gd_of (c := decide ((w__can.getD (s * 13 + s2) 0) < 1099511627776)) hg (.agg #[I x.line, B x.back]))) H (fun hg => (level_survey_goal_ok w__Net_Marks w__Net_Lines x (hC_w__Net_Lines.app _) hs_w__Net_Lines (Fld.of (h_b_w_.app _) rfl) (M.e_opt hx47z hg) _ (H.give (A := []) rfl)).mono fun v_ w_ ⟨y_, hr_, hv_, H_⟩ => by subst hr_; exact ⟨hv_, H.via H_⟩) ?_
      intro w48z H
      refine s_nil ⟨(H.pick [0, 1, 2, 3, 4, 5, 6] (by decide) rfl), ?_⟩
      obtain ⟨sd49z, hM⟩ := M.e_grd hM
      replace sd49z := M.imp_of sd49z
      simp only [Bool.and_eq_true, decide_eq_true_eq] at sd49z
      refine d_qg (decide ((w__can.getD (s * 13 + s2) 0) < 1099511627776)) rfl (gy_t rfl) (fun hg => (fun w' H => x_ix (a := .pointer (some ⟨b_w_, 2 + Int.toNat (s : Int) * 13, none⟩)) (b := I r3) (v := .pointer (some ⟨b_w_, (2 + Int.toNat (s : Int) * 13) + Int.toNat r3 * 1, none⟩)) (gd_of (c := decide ((w__can.getD (s * 13 + s2) 0) < 1099511627776)) hg (.pointer (some ⟨b_w_, 2 + Int.toNat (s : Int) * 13, none⟩))) (gd_of (c := decide ((w__can.getD (s * 13 + s2) 0) < 1099511627776)) hg (I r3)) (run_indexS Try.underlying114 Sz3 (by have h1_ := sd46z.resolve_left (by rw [hg]; decide); have h2_ := sd49z.resolve_left (by rw [hg]; decide); first | exact h1_ | exact h1_.1 | exact h1_.2 | exact h2_ | exact h2_.1 | exact h2_.2 | omega | (have hx_ := hg; simp at hx_; omega)) (by have h1_ := sd46z.resolve_left (by rw [hg]; decide); have h2_ := sd49z.resolve_left (by rw [hg]; decide); first | exact h1_ | exact h1_.1 | exact h1_.2 | exact h2_ | exact h2_.1 | exact h2_.2 | omega | (have hx_ := hg; simp at hx_; omega))))) ?_
      refine d_qg (decide ((w__can.getD (s * 13 + s2) 0) < 1099511627776)) rfl (gy_t rfl) (fun hg => (fun w' H => x_ld (p := .pointer (some ⟨b_w_, (2 + Int.toNat (s : Int) * 13) + Int.toNat r3 * 1, none⟩)) (v := I (w__can.getD (s * 13 + (Int.toNat r3)) 0)) (gd_of (c := decide ((w__can.getD (s * 13 + s2) 0) < 1099511627776)) hg (.pointer (some ⟨b_w_, (2 + Int.toNat (s : Int) * 13) + Int.toNat r3 * 1, none⟩))) (ldS (α := Int) (k := 1) (off := 2) (i := s * 13 + (Int.toNat r3)) (f := 0) (sz := 1) 0 Sc3 (h_b_w_.blk H) rfl (sgo1 rfl) rfl (by decide) (by have hu_ := hl_w__can; have h1_ := sd46z.resolve_left (by rw [hg]; decide); have h2_ := sd49z.resolve_left (by rw [hg]; decide); first | exact h1_ | exact h1_.1 | exact h1_.2 | exact h2_ | exact h2_.1 | exact h2_.2 | omega | (have hx_ := hg; simp at hx_; omega)) (by omega) rfl))) ?_
      refine d_qg (decide ((w__can.getD (s * 13 + s2) 0) < 1099511627776)) rfl (gy_t rfl) (fun hg => (fun w' H => x_cmp (kd := .i64) (a := (w__can.getD (s * 13 + s2) 0) + r2) (b := w__can.getD (s * 13 + (Int.toNat r3)) 0) (r := decide (((w__can.getD (s * 13 + s2) 0) + r2) < (w__can.getD (s * 13 + (Int.toNat r3)) 0))) (gd_of (c := decide ((w__can.getD (s * 13 + s2) 0) < 1099511627776)) hg (I ((w__can.getD (s * 13 + s2) 0) + r2))) (gd_of (c := decide ((w__can.getD (s * 13 + s2) 0) < 1099511627776)) hg (I (w__can.getD (s * 13 + (Int.toNat r3)) 0))) rfl)) ?_
      refine d_q rfl (fun w' H => x_pand (b := decide ((w__can.getD (s * 13 + s2) 0) < 1099511627776)) (r := decide (((w__can.getD (s * 13 + s2) 0) + r2) < (w__can.getD (s * 13 + (Int.toNat r3)) 0))) rfl (fun hb => gd_of (c := decide ((w__can.getD (s * 13 + s2) 0) < 1099511627776)) (by first | exact hb | (rw [hb]; rfl) | simp_all) (B (decide (((w__can.getD (s * 13 + s2) 0) + r2) < (w__can.getD (s * 13 + (Int.toNat r3)) 0))))) rfl) ?_
      refine d_nil ?_
      refine W.cond ((decide ((w__can.getD (s * 13 + s2) 0) < 1099511627776)) && (decide (((w__can.getD (s * 13 + s2) 0) + r2) < (w__can.getD (s * 13 + (Int.toNat r3)) 0)))) rfl (fun c50z => ?_) (fun c50z => ?_)
      ·replace hM := M.e_t hM c50z
       refine W.seq ?_
       refine W.region rfl ?_
       refine t_st (k := 1) (b := b_2) (off := 0) (cs := [B false]) (vs := [B true]) (cs' := [B true]) (v := B true) (L' := [cBlk b_6 [I x.line, B x.back] 91, cBlk b_2 [B true] 4, cMk (D24z :: Ds6z), cBlk nb0_4 [.pointer (some ⟨b_w_, 0, none⟩)] 111, cBlk nb1_5 [I r10] 3, cBlk b_3 [I (s2 : Int)] 3, cBlk b_1 [.pointer (some ⟨b_w_, 0, none⟩)] 111]) H rfl rfl rfl Sz4 rfl rfl rfl rfl rfl rfl ?_
       intro w51z H
       refine s_nil ?_
       refine W.ret ?_
       have hX52z := M.e_inr hM hN39z
       subst hX52z
       replace hM := hk32z
       try dsimp only at hM
       exact ⟨(), [cBlk b_2 [B true] 4], (M.e_pure hM).symm, rfl, H.pick [1, 2, 3, 4, 5, 6] (by decide) rfl, rfl⟩
      ·replace hM := M.e_f hM c50z
       refine W.skip ?_
       refine W.region rfl ?_
       obtain ⟨sd53z, hM⟩ := M.e_grd hM
       simp only [Bool.and_eq_true, decide_eq_true_eq] at sd53z
       refine s_val (x_ari (a := (s : Int)) (b := 1) (r := (s : Int) + 1) rfl rfl rfl (by omega)) ?_
       refine s_val (x_mv (v := I ((s : Int) + 1)) rfl) ?_
       refine s_nil ?_
       exact ⟨m36z, lt37z, s + 1, _, upds_of _ _ ⟨rfl, rfl, rfl, rfl, rfl, rfl, trivial⟩, M.e_inl hM hN39z, H⟩
     ·replace hM := M.e_f hM c40z
      simp only [decide_eq_true_eq, decide_eq_false_iff_not, beq_iff_eq, bne_iff_ne, beq_eq_false_iff_ne, bne_eq_false_iff_eq, ne_eq, Decidable.not_not] at c40z
      refine W.exit ?_
      have hX54z := M.e_inr hM hN39z
      subst hX54z
      replace hM := hk32z
      try dsimp only at hM
      exact ⟨(), [cBlk b_2 [B false] 4], (M.e_pure hM).symm, rfl, H.pick [1, 2, 3, 4, 5, 6] (by decide) rfl⟩
   replace H : St w w26z (cAll (cObj l23z (.loop r25z) :: [cBlk b_2 [B false] 4]) :: [cMk (D24z :: Ds6z), cBlk nb0_4 [.pointer (some ⟨b_w_, 0, none⟩)] 111, cBlk nb1_5 [I r10] 3, cBlk b_3 [I (s2 : Int)] 3, cBlk b_1 [.pointer (some ⟨b_w_, 0, none⟩)] 111]) R := St.bundleB (A := cObj l23z (.loop r25z) :: [cBlk b_2 [B false] 4]) (T := [cMk (D24z :: Ds6z), cBlk nb0_4 [.pointer (some ⟨b_w_, 0, none⟩)] 111, cBlk nb1_5 [I r10] 3, cBlk b_3 [I (s2 : Int)] 3, cBlk b_1 [.pointer (some ⟨b_w_, 0, none⟩)] 111]) rfl (H.pick [0, 2, 1, 3, 4, 5, 6] (by decide) rfl)
   refine (level_survey_legs_1_ok (M.yl (m_level_survey_open_b5 w__Net_Marks w__Net_Lines w__can s2)) (.inl ()) w__Net_Marks w__Net_Lines r10 hYC ⟨_, rfl, rfl⟩ (hC_w__Net_Lines.app _) hs_w__Net_Lines (fun _ _ _ => Fld.cons (Fld.of (h_b_w_.app _) rfl) _) (Has.here (k := 1) rfl) (Has.here (k := 2) rfl) hx22z _ (St.give (A := [cAll (cObj l23z (.loop r25z) :: [cBlk b_2 [B false] 4])]) (T := [cMk (D24z :: Ds6z), cBlk nb0_4 [.pointer (some ⟨b_w_, 0, none⟩)] 111, cBlk nb1_5 [I r10] 3, cBlk b_3 [I (s2 : Int)] 3, cBlk b_1 [.pointer (some ⟨b_w_, 0, none⟩)] 111]) H rfl)).mono ?_
   rintro vq w55z ⟨t59z, Ls57z, hq60z, hvq, H2_, hY58z⟩
   subst hq60z
   replace H := H.back H2_ rfl
   clear H2_ hYC
   rcases t59z with _ | _
   ·try dsimp only at hM
    obtain ⟨_, rfl, rfl⟩ := hY58z
    refine ⟨_, [cBlk b_2 [B false] 4, cBlk nb0_4 [.pointer (some ⟨b_w_, 0, none⟩)] 111, cBlk nb1_5 [I r10] 3, cBlk b_3 [I (s2 : Int)] 3, cBlk b_1 [.pointer (some ⟨b_w_, 0, none⟩)] 111], H.unbundle.pick [0, 2, 1, 3, 4, 5, 6] (by decide) rfl, hr27z.nb, ?_⟩
    intro w56z H
    rw [hr27z.pd]
    replace H : St w w56z [cMk (D24z :: Ds6z), cBlk b_2 [B false] 4, cBlk nb0_4 [.pointer (some ⟨b_w_, 0, none⟩)] 111, cBlk nb1_5 [I r10] 3, cBlk b_3 [I (s2 : Int)] 3, cBlk b_1 [.pointer (some ⟨b_w_, 0, none⟩)] 111] R := H
    try simp only []
    refine WD.seq ?_
    refine WD.of ?_
    refine W.draw (fun W => St w W [cMk (D24z :: Ds6z), cBlk b_2 [B false] 4, cBlk nb0_4 [.pointer (some ⟨b_w_, 0, none⟩)] 111, cBlk nb1_5 [I r10] 3, cBlk b_3 [I (s2 : Int)] 3, cBlk b_1 [.pointer (some ⟨b_w_, 0, none⟩)] 111] R) [(0, true), (1, true), (2, true), (3, true), (4, true), (5, true), (6, true), (7, true), (8, true)] mixed (by decide +kernel) rfl ?_
    intro w61z hx_
    replace H : St w w61z [cMk (D24z :: Ds6z), cBlk b_2 [B false] 4, cBlk nb0_4 [.pointer (some ⟨b_w_, 0, none⟩)] 111, cBlk nb1_5 [I r10] 3, cBlk b_3 [I (s2 : Int)] 3, cBlk b_1 [.pointer (some ⟨b_w_, 0, none⟩)] 111] R := H.ext hx_
    clear hx_
    refine ⟨(H.pick [0, 1, 2, 3, 4, 5] (by decide) rfl), ?_⟩
    refine d_q rfl (fun w' H => x_ld (p := .pointer (some ⟨b_1, 0, none⟩)) (v := .pointer (some ⟨b_w_, 0, none⟩)) rfl (ldb_sc Sc111 (H.blk (k := 5) rfl) rfl)) ?_
    refine d_q rfl (fun w' H => x_ld (p := .pointer (some ⟨b_3, 0, none⟩)) (v := I (s2 : Int)) rfl (ldb_sc Sc3 (H.blk (k := 4) rfl) rfl)) ?_
    refine d_q rfl (fun w' H => x_ld (p := .pointer (some ⟨b_3, 0, none⟩)) (v := I (s2 : Int)) rfl (ldb_sc Sc3 (H.blk (k := 4) rfl) rfl)) ?_
    refine d_q rfl (fun w' H => x_nc (a := ⟨b_w_, 0, none⟩) rfl) ?_
    refine d_q rfl (fun w' H => x_fa (a := .pointer (some ⟨b_w_, 0, none⟩)) (v := .pointer (some ⟨b_w_, 2, none⟩)) rfl (fa_blk (o := 0) Fd120_1 Sz116)) ?_
    obtain ⟨sd62z, hM⟩ := M.e_grd hM
    simp only [Bool.and_eq_true, decide_eq_true_eq] at sd62z
    refine d_q rfl (fun w' H => x_ix (a := .pointer (some ⟨b_w_, 2, none⟩)) (b := I (s2 : Int)) (v := .pointer (some ⟨b_w_, 2 + Int.toNat (s2 : Int) * 13, none⟩)) rfl rfl (run_indexS Try.underlying116 Sz114 (by omega) (by omega))) ?_
    refine d_q rfl (fun w' H => x_ix (a := .pointer (some ⟨b_w_, 2 + Int.toNat (s2 : Int) * 13, none⟩)) (b := I (s2 : Int)) (v := .pointer (some ⟨b_w_, (2 + Int.toNat (s2 : Int) * 13) + Int.toNat (s2 : Int) * 1, none⟩)) rfl rfl (run_indexS Try.underlying114 Sz3 (by omega) (by omega))) ?_
    refine d_q rfl (fun w' H => x_ld (p := .pointer (some ⟨b_w_, (2 + Int.toNat (s2 : Int) * 13) + Int.toNat (s2 : Int) * 1, none⟩)) (v := I (w__can.getD (s2 * 13 + s2) 0)) rfl (ldS (α := Int) (k := 1) (off := 2) (i := s2 * 13 + s2) (f := 0) (sz := 1) 0 Sc3 (h_b_w_.blk H) rfl (sgo1 rfl) rfl (by decide) (by have hl_ := hl_w__can; omega) (by omega) rfl)) ?_
    refine d_q rfl (fun w' H => x_cmp (kd := .i64) (a := w__can.getD (s2 * 13 + s2) 0) (b := 0) (r := decide ((w__can.getD (s2 * 13 + s2) 0) < 0)) rfl rfl rfl) ?_
    refine d_nil ?_
    refine WD.cond (decide ((w__can.getD (s2 * 13 + s2) 0) < 0)) rfl (fun c63z => ?_) (fun c63z => ?_)
    ·replace hM := M.e_t hM c63z
     simp only [decide_eq_true_eq, decide_eq_false_iff_not, beq_iff_eq, bne_iff_ne, beq_eq_false_iff_ne, bne_eq_false_iff_eq, ne_eq, Decidable.not_not] at c63z
     refine WD.seq ?_
     refine WD.of ?_
     refine W.region rfl ?_
     refine t_st (k := 1) (b := b_2) (off := 0) (cs := [B false]) (vs := [B true]) (cs' := [B true]) (v := B true) (L' := [cMk (D24z :: Ds6z), cBlk b_2 [B true] 4, cBlk nb0_4 [.pointer (some ⟨b_w_, 0, none⟩)] 111, cBlk nb1_5 [I r10] 3, cBlk b_3 [I (s2 : Int)] 3, cBlk b_1 [.pointer (some ⟨b_w_, 0, none⟩)] 111]) H rfl rfl rfl Sz4 rfl rfl rfl rfl rfl rfl ?_
     intro w64z H
     refine s_nil ?_
     refine WD.of ?_
     refine W.ret ?_
     have hX65z := M.e_inr hM hN13z
     subst hX65z
     replace hM := hk5z
     try dsimp only at hM
     refine bodyD_r (H.pick [0, 1, 2, 3, 4, 5] (by decide) rfl) ?_
     intro w66z H
     replace H : St w w66z [cBlk b_2 [B true] 4, cBlk nb0_4 [.pointer (some ⟨b_w_, 0, none⟩)] 111, cBlk nb1_5 [I r10] 3, cBlk b_3 [I (s2 : Int)] 3, cBlk b_1 [.pointer (some ⟨b_w_, 0, none⟩)] 111] R := H
     have hb67z := (H.blk (k := 0) rfl)
     have hr_ := M.e_pure hM
     exact ⟨_, (resE_of1 (v := B true) rfl (.cell (v := B true) rfl (run_loadVar_sc Sc4 hb67z rfl) <| .nil)), ⟨true, hr_, rfl, (H.pick [] (by decide) rfl)⟩⟩
    ·replace hM := M.e_f hM c63z
     simp only [decide_eq_true_eq, decide_eq_false_iff_not, beq_iff_eq, bne_iff_ne, beq_eq_false_iff_ne, bne_eq_false_iff_eq, ne_eq, Decidable.not_not] at c63z
     refine WD.of ?_
     refine W.skip ?_
     refine WD.of ?_
     refine W.region rfl ?_
     obtain ⟨sd68z, hM⟩ := M.e_grd hM
     simp only [Bool.and_eq_true, decide_eq_true_eq] at sd68z
     refine s_val (x_ari (a := (s2 : Int)) (b := 1) (r := (s2 : Int) + 1) rfl rfl rfl (by omega)) ?_
     refine s_val (x_mv (v := I ((s2 : Int) + 1)) rfl) ?_
     refine s_nil ?_
     exact ⟨m10z, lt11z, s2 + 1, _, upds_of _ _ ⟨rfl, rfl, rfl, rfl, trivial⟩, M.e_inl hM hN13z, (H.pick [1, 5, 0] (by decide) rfl)⟩
   ·try dsimp only at hM
    obtain ⟨_, rfl, rfl⟩ := hY58z
    refine ⟨_, [cBlk b_2 [B true] 4, cBlk nb0_4 [.pointer (some ⟨b_w_, 0, none⟩)] 111, cBlk nb1_5 [I r10] 3, cBlk b_3 [I (s2 : Int)] 3, cBlk b_1 [.pointer (some ⟨b_w_, 0, none⟩)] 111], H.unbundle.pick [0, 2, 1, 3, 4, 5, 6] (by decide) rfl, nofun, ?_⟩
    intro w56z H
    show WD _ _ _ (.ret) _ _ _
    refine WD.of ?_
    refine W.ret ?_
    replace H : St w w56z [cMk (D24z :: Ds6z), cBlk b_2 [B true] 4, cBlk nb0_4 [.pointer (some ⟨b_w_, 0, none⟩)] 111, cBlk nb1_5 [I r10] 3, cBlk b_3 [I (s2 : Int)] 3, cBlk b_1 [.pointer (some ⟨b_w_, 0, none⟩)] 111] R := H
    have hX69z := M.e_inr hM hN13z
    subst hX69z
    replace hM := hk5z
    try dsimp only at hM
    refine bodyD_r (H.pick [0, 1, 2, 3, 4, 5] (by decide) rfl) ?_
    intro w70z H
    replace H : St w w70z [cBlk b_2 [B true] 4, cBlk nb0_4 [.pointer (some ⟨b_w_, 0, none⟩)] 111, cBlk nb1_5 [I r10] 3, cBlk b_3 [I (s2 : Int)] 3, cBlk b_1 [.pointer (some ⟨b_w_, 0, none⟩)] 111] R := H
    have hb71z := (H.blk (k := 0) rfl)
    have hr_ := M.e_pure hM
    exact ⟨_, (resE_of1 (v := B true) rfl (.cell (v := B true) rfl (run_loadVar_sc Sc4 hb71z rfl) <| .nil)), ⟨true, hr_, rfl, (H.pick [] (by decide) rfl)⟩⟩
  ·replace hM := M.e_f hM c14z
   simp only [decide_eq_true_eq, decide_eq_false_iff_not, beq_iff_eq, bne_iff_ne, beq_eq_false_iff_ne, bne_eq_false_iff_eq, ne_eq, Decidable.not_not] at c14z
   refine WD.of ?_
   refine W.exit ?_
   have hX72z := M.e_inr hM hN13z
   subst hX72z
   replace hM := hk5z
   try dsimp only at hM
   refine WD.seq ?_
   refine WD.of ?_
   refine W.region rfl ?_
   refine t_st (k := 0) (b := b_2) (off := 0) (cs := [B false]) (vs := [B false]) (cs' := [B false]) (v := B false) (L' := [cBlk b_2 [B false] 4, cBlk b_1 [.pointer (some ⟨b_w_, 0, none⟩)] 111, cMk Ds6z]) H rfl rfl rfl Sz4 rfl rfl rfl rfl rfl rfl ?_
   intro w73z H
   refine s_nil ?_
   refine WD.of ?_
   refine W.ret ?_
   refine bodyD_r (H.pick [2, 0, 1] (by decide) rfl) ?_
   intro w74z H
   replace H : St w w74z [cBlk b_2 [B false] 4, cBlk b_1 [.pointer (some ⟨b_w_, 0, none⟩)] 111] R := H
   have hb75z := (H.blk (k := 0) rfl)
   have hr_ := M.e_pure hM
   exact ⟨_, (resE_of1 (v := B false) rfl (.cell (v := B false) rfl (run_loadVar_sc Sc4 hb75z rfl) <| .nil)), ⟨false, hr_, rfl, (H.pick [] (by decide) rfl)⟩⟩

def m_level_agreed (n_Marks : Int) (n_Lines : List Line) : M (Int ⊕ (Int × (List Int) × (List Leg) × Int)) :=
  M.bind (m_level_opened n_Marks n_Lines) fun x_ => match x_ with
  | (.inl r1) => (
  bif r1 == 0 then (
  M.fail)
  else (
  M.pure (.inl r1)))
  | (.inr (r00, r02, r03, r12)) => (
  M.bind (M.opt (r12 == 0) (m_level_survey_open r00 n_Lines r02 r03) false) fun r2 =>
  bif ((r12 == 0) && r2) then (
  M.pure (.inr (r00, r02, r03, 7)))
  else (
  M.pure (.inr (r00, r02, r03, r12))))
theorem level_agreed_ok {R : List Chunk} {C_n_Lines : Cells} {v_n_Lines : Value} (n_Marks : Int) (n_Lines : List Line) (hC_n_Lines : Reads R C_n_Lines) (hs_n_Lines : Sl C_n_Lines v_n_Lines n_Lines) {r : (Int ⊕ (Int × (List Int) × (List Leg) × Int))} (hM : (m_level_agreed n_Marks n_Lines).Ends r) (w : World) (H : St w w [] R) : Ret Try.prog 65 #[.agg #[I n_Marks, v_n_Lines]] w fun v w' => (∃ (y0 : Int), (.inl y0) = r /\ v = .tuple #[.pointer none, I y0] /\ St w w' [] R) ∨ (∃ (y0 : Int) (y1 : List Int) (y2 : List Leg) (y3 : Int) (nb0 : Nat), (.inr (y0, y1, y2, y3)) = r /\ v = .tuple #[.pointer (some ⟨nb0, 0, none⟩), I y3] /\ St w w' [cBlk nb0 (List.flatten [[I y0, v_n_Lines], encF (α := Int) y1, encF (α := Leg) y2]) 120] R /\ y1.length = 169 /\ y2.length = 169) := by
 refine ret_of_W Try.func65 rfl rfl rfl ?_
 refine W.seq ?_
 refine W.region rfl ?_
 refine t_box (v := .agg #[I n_Marks, v_n_Lines]) (cs := [I n_Marks, v_n_Lines]) H rfl rfl ?_
 intro b_1 w1z H
 refine s_val (x_as (v := .pointer none) rfl) ?_
 refine s_val (x_as (v := I 0) rfl) ?_
 refine s_nil ?_
 refine W.seq ?_
 refine W.region rfl ?_
 refine s_val (x_ld (p := .pointer (some ⟨b_1, 0, none⟩)) (v := .agg #[I n_Marks, v_n_Lines]) rfl (ldb_ag (ds := [I n_Marks, v_n_Lines]) Ag25 Sz25 (H.blk (k := 0) rfl) rfl rfl)) ?_
 obtain ⟨r3z, hx2z, hM⟩ := M.e_bind hM
 refine s_call cf59 [.agg #[I n_Marks, v_n_Lines]] rfl (level_opened_ok n_Marks n_Lines (hC_n_Lines.app _) hs_n_Lines hx2z _ (St.give (T := [cBlk b_1 [I n_Marks, v_n_Lines] 25]) H rfl)) ?_
 rintro vq w4z (⟨r1, hr5z, hvq, H2_⟩ | ⟨r00, r02, r03, r12, nb0_2, hr6z, hvq, H2_, hf7z, hf8z⟩)
 ·subst hr5z
  subst vq
  try dsimp only at hM
  replace H : St w w4z [cBlk b_1 [I n_Marks, v_n_Lines] 25] R := H.back H2_ rfl
  clear H2_
  refine s_val (x_mv (v := .tuple #[.pointer none, I r1]) rfl) ?_
  refine s_val (x_ext (vs := [.pointer none, I r1]) (v := .pointer none) rfl rfl) ?_
  refine s_val (x_ext (vs := [.pointer none, I r1]) (v := I r1) rfl rfl) ?_
  refine s_val (x_as (v := .pointer none) rfl) ?_
  refine s_val (x_as (v := I r1) rfl) ?_
  refine s_nil ?_
  refine W.seq ?_
  refine W.seq ?_
  refine W.region rfl ?_
  refine s_val (x_mv (v := I r1) rfl) ?_
  refine s_val (x_cmp (kd := .i64) (a := r1) (b := 0) (r := r1 == 0) rfl rfl rfl) ?_
  refine s_val (x_mv (v := B (r1 == 0)) rfl) ?_
  refine g_val (r1 == 0) (gy_t rfl) (fun hg => x_mv (v := .pointer none) rfl) ?_
  refine (Bool.eq_false_or_eq_true (r1 == 0)).elim (fun hg_ => ?_) (fun hg_ => ?_)
  ·exact (M.e_fail (M.e_t hM hg_)).elim
  replace hM := M.e_f hM hg_
  refine g_val (v := B false) (r1 == 0) (gy_t rfl) (fun hg => Bool.noConfusion (hg_.symm.trans hg)) ?_
  refine s_val (x_pand0 (b := r1 == 0) rfl (fun hb => gd_of (c := r1 == 0) (by first | exact hb | (rw [hb]; rfl) | simp_all) (B false)) rfl) ?_
  refine s_nil ?_
  refine W.cond false rfl (fun c9z => ?_) (fun c9z => ?_)
  ·skip
   exact absurd c9z (by decide)
  ·skip
   refine W.skip ?_
   refine W.seq ?_
   refine W.region rfl ?_
   refine s_val (x_mv (v := .pointer none) rfl) ?_
   refine s_val (x_mv (v := I r1) rfl) ?_
   refine s_val (x_as (v := .pointer none) rfl) ?_
   refine s_val (x_as (v := I r1) rfl) ?_
   refine s_nil ?_
   refine W.ret ?_
   have hr_ := M.e_pure hM
   exact ⟨_, resE_tmp2 rfl, .inl (⟨r1, hr_, rfl, (H.pick [] (by decide) rfl)⟩)⟩
 ·subst hr6z
  subst vq
  try dsimp only at hM
  replace H : St w w4z [cBlk nb0_2 (List.flatten [[I r00, v_n_Lines], encF (α := Int) r02, encF (α := Leg) r03]) 120, cBlk b_1 [I n_Marks, v_n_Lines] 25] R := H.back H2_ rfl
  clear H2_
  refine s_val (x_mv (v := .tuple #[.pointer (some ⟨nb0_2, 0, none⟩), I r12]) rfl) ?_
  refine s_val (x_ext (vs := [.pointer (some ⟨nb0_2, 0, none⟩), I r12]) (v := .pointer (some ⟨nb0_2, 0, none⟩)) rfl rfl) ?_
  refine s_val (x_ext (vs := [.pointer (some ⟨nb0_2, 0, none⟩), I r12]) (v := I r12) rfl rfl) ?_
  refine s_val (x_as (v := .pointer (some ⟨nb0_2, 0, none⟩)) rfl) ?_
  refine s_val (x_as (v := I r12) rfl) ?_
  refine s_nil ?_
  refine W.seq ?_
  refine W.seq ?_
  refine W.region rfl ?_
  refine s_val (x_mv (v := I r12) rfl) ?_
  refine s_val (x_cmp (kd := .i64) (a := r12) (b := 0) (r := r12 == 0) rfl rfl rfl) ?_
  refine s_val (x_mv (v := B (r12 == 0)) rfl) ?_
  refine g_val (r12 == 0) (gy_t rfl) (fun hg => x_mv (v := .pointer (some ⟨nb0_2, 0, none⟩)) rfl) ?_
  obtain ⟨r2, hx10z, hM⟩ := M.e_bind hM
  refine t_gcall (r12 == 0) (gy_t rfl) cf60 (B r2) (fun _ => [.pointer (some ⟨nb0_2, 0, none⟩)]) (fun hg => lst1 (gd_of (c := r12 == 0) hg (.pointer (some ⟨nb0_2, 0, none⟩)))) H (fun hg => (level_survey_open_ok r00 n_Lines r02 r03 (hC_n_Lines.app _) hs_n_Lines hf7z hf8z (Has.here (k := 0) rfl) (M.e_opt hx10z hg) _ (H.give (A := []) rfl)).mono fun v_ w_ ⟨y_, hr_, hv_, H_⟩ => by subst hr_; exact ⟨hv_, H.via H_⟩) ?_
  intro w11z H
  refine s_val (x_pand (b := r12 == 0) (r := r2) rfl (fun hb => gd_of (c := r12 == 0) (by first | exact hb | (rw [hb]; rfl) | simp_all) (B r2)) rfl) ?_
  refine s_nil ?_
  refine W.cond ((r12 == 0) && r2) rfl (fun c12z => ?_) (fun c12z => ?_)
  ·replace hM := M.e_t hM c12z
   refine W.region rfl ?_
   refine s_val (x_as (v := I 7) rfl) ?_
   refine s_nil ?_
   refine W.seq ?_
   refine W.region rfl ?_
   refine s_val (x_mv (v := .pointer (some ⟨nb0_2, 0, none⟩)) rfl) ?_
   refine s_val (x_mv (v := I 7) rfl) ?_
   refine s_val (x_as (v := .pointer (some ⟨nb0_2, 0, none⟩)) rfl) ?_
   refine s_val (x_as (v := I 7) rfl) ?_
   refine s_nil ?_
   refine W.ret ?_
   have hr_ := M.e_pure hM
   exact ⟨_, resE_tmp2 rfl, .inr (⟨r00, r02, r03, 7, nb0_2, hr_, rfl, (H.pick [0] (by decide) rfl), hf7z, hf8z⟩)⟩
  ·replace hM := M.e_f hM c12z
   refine W.skip ?_
   refine W.seq ?_
   refine W.region rfl ?_
   refine s_val (x_mv (v := .pointer (some ⟨nb0_2, 0, none⟩)) rfl) ?_
   refine s_val (x_mv (v := I r12) rfl) ?_
   refine s_val (x_as (v := .pointer (some ⟨nb0_2, 0, none⟩)) rfl) ?_
   refine s_val (x_as (v := I r12) rfl) ?_
   refine s_nil ?_
   refine W.ret ?_
   have hr_ := M.e_pure hM
   exact ⟨_, resE_tmp2 rfl, .inr (⟨r00, r02, r03, r12, nb0_2, hr_, rfl, (H.pick [0] (by decide) rfl), hf7z, hf8z⟩)⟩

def m_level_asked (n_Marks : Int) (n_Lines : List Line) (from_ : Int) (to_ : Int) (same : Bool) : M (Int ⊕ (Int × (List Int) × (List Leg) × Int)) :=
  M.bind (m_level_Check n_Marks n_Lines) fun r2 =>
  bif r2 != 0 then (
  M.pure (.inl r2))
  else (
  M.grd (decide ((-9223372036854775808 : Int) <= (n_Marks - 1)) && decide ((n_Marks - 1) <= (9223372036854775807 : Int))) <|
  M.bind (m_level_in from_ 0 (n_Marks - 1)) fun r3 =>
  M.bind (M.opt (!(!r3)) (m_level_in to_ 0 (n_Marks - 1)) false) fun r4 =>
  bif (((!r3) || (!r4)) || ((!same) && (from_ == to_))) then (
  M.pure (.inl 2))
  else (
  M.bind (m_level_agreed n_Marks n_Lines) fun x_ => match x_ with
  | (.inl r1) => (
  bif r1 == 0 then (
  M.fail)
  else (
  M.pure (.inl r1)))
  | (.inr (r00, r02, r03, r12)) => (
  M.grd ((!(r12 == 0) || (decide ((0 : Int) <= from_) && decide (from_ < (13 : Int))))) <|
  M.grd ((!(r12 == 0) || (decide ((0 : Int) <= to_) && decide (to_ < (13 : Int))))) <|
  bif ((r12 == 0) && ((r02.getD ((Int.toNat from_) * 13 + (Int.toNat to_)) 0) == 1099511627776)) then (
  M.pure (.inr (r00, r02, r03, 5)))
  else (
  M.pure (.inr (r00, r02, r03, r12))))))
theorem level_asked_ok {R : List Chunk} {C_n_Lines : Cells} {v_n_Lines : Value} (n_Marks : Int) (n_Lines : List Line) (from_ : Int) (to_ : Int) (same : Bool) (hC_n_Lines : Reads R C_n_Lines) (hs_n_Lines : Sl C_n_Lines v_n_Lines n_Lines) {r : (Int ⊕ (Int × (List Int) × (List Leg) × Int))} (hM : (m_level_asked n_Marks n_Lines from_ to_ same).Ends r) (w : World) (H : St w w [] R) : Ret Try.prog 56 #[.agg #[I n_Marks, v_n_Lines], I from_, I to_, B same] w fun v w' => (∃ (y0 : Int), (.inl y0) = r /\ v = .tuple #[.pointer none, I y0] /\ St w w' [] R) ∨ (∃ (y0 : Int) (y1 : List Int) (y2 : List Leg) (y3 : Int) (nb0 : Nat), (.inr (y0, y1, y2, y3)) = r /\ v = .tuple #[.pointer (some ⟨nb0, 0, none⟩), I y3] /\ St w w' [cBlk nb0 (List.flatten [[I y0, v_n_Lines], encF (α := Int) y1, encF (α := Leg) y2]) 120] R /\ y1.length = 169 /\ y2.length = 169) := by
 refine ret_of_W Try.func56 rfl rfl rfl ?_
 refine W.seq ?_
 refine W.region rfl ?_
 refine t_box (v := .agg #[I n_Marks, v_n_Lines]) (cs := [I n_Marks, v_n_Lines]) H rfl rfl ?_
 intro b_1 w1z H
 refine s_val (x_as (v := .pointer none) rfl) ?_
 refine s_val (x_as (v := I 0) rfl) ?_
 refine s_nil ?_
 refine W.seq ?_
 refine W.seq ?_
 refine W.region rfl ?_
 refine s_val (x_ld (p := .pointer (some ⟨b_1, 0, none⟩)) (v := .agg #[I n_Marks, v_n_Lines]) rfl (ldb_ag (ds := [I n_Marks, v_n_Lines]) Ag25 Sz25 (H.blk (k := 0) rfl) rfl rfl)) ?_
 obtain ⟨r3z, hx2z, hM⟩ := M.e_bind hM
 refine s_call cf37 [.agg #[I n_Marks, v_n_Lines]] rfl (level_Check_ok n_Marks n_Lines (hC_n_Lines.app _) hs_n_Lines hx2z _ (St.give (T := [cBlk b_1 [I n_Marks, v_n_Lines] 25]) H rfl)) ?_
 rintro vq w4z ⟨r2, hr5z, hvq, H2_⟩
 subst hr5z
 subst vq
 try dsimp only at hM
 replace H : St w w4z [cBlk b_1 [I n_Marks, v_n_Lines] 25] R := H.back H2_ rfl
 clear H2_
 refine s_val (x_as (v := I r2) rfl) ?_
 refine s_nil ?_
 refine W.seq ?_
 refine W.region rfl ?_
 refine s_val (x_mv (v := I r2) rfl) ?_
 refine s_val (x_cmp (kd := .i64) (a := r2) (b := 0) (r := r2 != 0) rfl rfl rfl) ?_
 refine s_nil ?_
 refine W.cond (r2 != 0) rfl (fun c6z => ?_) (fun c6z => ?_)
 ·replace hM := M.e_t hM c6z
  simp only [decide_eq_true_eq, decide_eq_false_iff_not, beq_iff_eq, bne_iff_ne, beq_eq_false_iff_ne, bne_eq_false_iff_eq, ne_eq, Decidable.not_not] at c6z
  refine W.seq ?_
  refine W.region rfl ?_
  refine s_val (x_mv (v := I r2) rfl) ?_
  refine s_val (x_as (v := .pointer none) rfl) ?_
  refine s_val (x_as (v := I r2) rfl) ?_
  refine s_nil ?_
  refine W.ret ?_
  have hr_ := M.e_pure hM
  exact ⟨_, resE_tmp2 rfl, .inl (⟨r2, hr_, rfl, (H.pick [] (by decide) rfl)⟩)⟩
 ·replace hM := M.e_f hM c6z
  simp only [decide_eq_true_eq, decide_eq_false_iff_not, beq_iff_eq, bne_iff_ne, beq_eq_false_iff_ne, bne_eq_false_iff_eq, ne_eq, Decidable.not_not] at c6z
  refine W.skip ?_
  refine W.seq ?_
  refine W.seq ?_
  refine W.region rfl ?_
  refine s_val (x_mv (v := I from_) rfl) ?_
  refine s_val (x_fa (a := .pointer (some ⟨b_1, 0, none⟩)) (v := .pointer (some ⟨b_1, 0, none⟩)) rfl (fa_blk (o := 0) Fd25_0 Sz3)) ?_
  refine s_val (x_ld (p := .pointer (some ⟨b_1, 0, none⟩)) (v := I n_Marks) rfl (ldb_sc Sc3 (H.blk (k := 0) rfl) rfl)) ?_
  obtain ⟨sd7z, hM⟩ := M.e_grd hM
  simp only [Bool.and_eq_true, decide_eq_true_eq] at sd7z
  refine s_val (x_ari (a := n_Marks) (b := 1) (r := n_Marks - 1) rfl rfl rfl (by omega)) ?_
  obtain ⟨r9z, hx8z, hM⟩ := M.e_bind hM
  refine s_call cf68 [I from_, I 0, I (n_Marks - 1)] rfl (level_in_ok from_ 0 (n_Marks - 1) hx8z _ (St.give (T := [cBlk b_1 [I n_Marks, v_n_Lines] 25]) H rfl)) ?_
  rintro vq w10z ⟨r3, hr11z, hvq, H2_⟩
  subst hr11z
  subst vq
  try dsimp only at hM
  replace H : St w w10z [cBlk b_1 [I n_Marks, v_n_Lines] 25] R := H.back H2_ rfl
  clear H2_
  refine s_val (x_not (b := r3) rfl) ?_
  refine s_val (x_mv (v := B (!r3)) rfl) ?_
  refine g_val (!(!r3)) (gy_f rfl) (fun hg => x_mv (v := I to_) rfl) ?_
  refine g_val (!(!r3)) (gy_f rfl) (fun hg => x_fa (a := .pointer (some ⟨b_1, 0, none⟩)) (v := .pointer (some ⟨b_1, 0, none⟩)) rfl (fa_blk (o := 0) Fd25_0 Sz3)) ?_
  refine g_val (!(!r3)) (gy_f rfl) (fun hg => x_ld (p := .pointer (some ⟨b_1, 0, none⟩)) (v := I n_Marks) (gd_of (c := !(!r3)) hg (.pointer (some ⟨b_1, 0, none⟩))) (ldb_sc Sc3 (H.blk (k := 0) rfl) rfl)) ?_
  refine g_val (!(!r3)) (gy_f rfl) (fun hg => x_ari (a := n_Marks) (b := 1) (r := n_Marks - 1) (gd_of (c := !(!r3)) hg (I n_Marks)) rfl rfl (by first | omega | (have hx_ := hg; simp at hx_; omega))) ?_
  obtain ⟨r4, hx12z, hM⟩ := M.e_bind hM
  refine t_gcall (!(!r3)) (gy_f rfl) cf68 (B r4) (fun _ => [I to_, I 0, I (n_Marks - 1)]) (fun hg => lst3 (gd_of (c := !(!r3)) hg (I to_)) rfl (gd_of (c := !(!r3)) hg (I (n_Marks - 1)))) H (fun hg => (level_in_ok to_ 0 (n_Marks - 1) (M.e_opt hx12z hg) _ (H.give (A := []) rfl)).mono fun v_ w_ ⟨y_, hr_, hv_, H_⟩ => by subst hr_; exact ⟨hv_, H.via H_⟩) ?_
  intro w13z H
  refine g_val (!(!r3)) (gy_f rfl) (fun hg => x_not (b := r4) (gd_of (c := !(!r3)) hg (B r4))) ?_
  refine s_val (x_por (b := !r3) (r := !r4) rfl rfl (fun hb => gd_of (c := !(!r3)) (by first | exact hb | (rw [hb]; rfl) | simp_all) (B (!r4)))) ?_
  refine s_val (x_mv (v := B ((!r3) || (!r4))) rfl) ?_
  refine g_val (!((!r3) || (!r4))) (gy_f rfl) (fun hg => x_mv (v := B same) rfl) ?_
  refine g_val (!((!r3) || (!r4))) (gy_f rfl) (fun hg => x_not (b := same) (gd_of (c := !((!r3) || (!r4))) hg (B same))) ?_
  refine g_val (!((!r3) || (!r4))) (gy_f rfl) (fun hg => x_mv (v := B (!same)) (gd_of (c := !((!r3) || (!r4))) hg (B (!same)))) ?_
  refine g_val ((!((!r3) || (!r4))) && (!same)) (gy_gt rfl rfl) (fun hg => x_mv (v := I from_) rfl) ?_
  refine g_val ((!((!r3) || (!r4))) && (!same)) (gy_gt rfl rfl) (fun hg => x_mv (v := I to_) rfl) ?_
  refine g_val ((!((!r3) || (!r4))) && (!same)) (gy_gt rfl rfl) (fun hg => x_cmp (kd := .i64) (a := from_) (b := to_) (r := from_ == to_) (gd_of (c := ((!((!r3) || (!r4))) && (!same))) hg (I from_)) (gd_of (c := ((!((!r3) || (!r4))) && (!same))) hg (I to_)) rfl) ?_
  refine g_val (!((!r3) || (!r4))) (gy_f rfl) (fun hg => x_pand (b := !same) (r := from_ == to_) (gd_of (c := !((!r3) || (!r4))) hg (B (!same))) (fun hb => gd_of (c := ((!((!r3) || (!r4))) && (!same))) (by first | exact hb | (rw [hb]; rfl) | simp_all) (B (from_ == to_))) rfl) ?_
  refine s_val (x_por (b := ((!r3) || (!r4))) (r := ((!same) && (from_ == to_))) rfl rfl (fun hb => gd_of (c := !((!r3) || (!r4))) (by first | exact hb | (rw [hb]; rfl) | simp_all) (B ((!same) && (from_ == to_))))) ?_
  refine s_nil ?_
  refine W.cond (((!r3) || (!r4)) || ((!same) && (from_ == to_))) rfl (fun c14z => ?_) (fun c14z => ?_)
  ·replace hM := M.e_t hM c14z
   refine W.seq ?_
   refine W.region rfl ?_
   refine s_val (x_as (v := .pointer none) rfl) ?_
   refine s_val (x_as (v := I 2) rfl) ?_
   refine s_nil ?_
   refine W.ret ?_
   have hr_ := M.e_pure hM
   exact ⟨_, resE_tmp2 rfl, .inl (⟨2, hr_, rfl, (H.pick [] (by decide) rfl)⟩)⟩
  ·replace hM := M.e_f hM c14z
   refine W.skip ?_
   refine W.seq ?_
   refine W.region rfl ?_
   refine s_val (x_ld (p := .pointer (some ⟨b_1, 0, none⟩)) (v := .agg #[I n_Marks, v_n_Lines]) rfl (ldb_ag (ds := [I n_Marks, v_n_Lines]) Ag25 Sz25 (H.blk (k := 0) rfl) rfl rfl)) ?_
   obtain ⟨r16z, hx15z, hM⟩ := M.e_bind hM
   refine s_call cf65 [.agg #[I n_Marks, v_n_Lines]] rfl (level_agreed_ok n_Marks n_Lines (hC_n_Lines.app _) hs_n_Lines hx15z _ (St.give (T := [cBlk b_1 [I n_Marks, v_n_Lines] 25]) H rfl)) ?_
   rintro vq w17z (⟨r1, hr18z, hvq, H2_⟩ | ⟨r00, r02, r03, r12, nb0_2, hr19z, hvq, H2_, hf20z, hf21z⟩)
   ·subst hr18z
    subst vq
    try dsimp only at hM
    replace H : St w w17z [cBlk b_1 [I n_Marks, v_n_Lines] 25] R := H.back H2_ rfl
    clear H2_
    refine s_val (x_mv (v := .tuple #[.pointer none, I r1]) rfl) ?_
    refine s_val (x_ext (vs := [.pointer none, I r1]) (v := .pointer none) rfl rfl) ?_
    refine s_val (x_ext (vs := [.pointer none, I r1]) (v := I r1) rfl rfl) ?_
    refine s_val (x_as (v := .pointer none) rfl) ?_
    refine s_val (x_as (v := I r1) rfl) ?_
    refine s_nil ?_
    refine W.seq ?_
    refine W.seq ?_
    refine W.region rfl ?_
    refine s_val (x_mv (v := I r1) rfl) ?_
    refine s_val (x_cmp (kd := .i64) (a := r1) (b := 0) (r := r1 == 0) rfl rfl rfl) ?_
    refine s_val (x_mv (v := B (r1 == 0)) rfl) ?_
    refine g_val (r1 == 0) (gy_t rfl) (fun hg => x_mv (v := .pointer none) rfl) ?_
    refine g_val (r1 == 0) (gy_t rfl) (fun hg => x_mv (v := I from_) rfl) ?_
    refine g_val (r1 == 0) (gy_t rfl) (fun hg => x_mv (v := I to_) rfl) ?_
    refine (Bool.eq_false_or_eq_true (r1 == 0)).elim (fun hg_ => ?_) (fun hg_ => ?_)
    ·exact (M.e_fail (M.e_t hM hg_)).elim
    replace hM := M.e_f hM hg_
    refine g_val (v := .slice none 0 0) (r1 == 0) (gy_t rfl) (fun hg => Bool.noConfusion (hg_.symm.trans hg)) ?_
    refine g_val (v := .slice none 0 0) (r1 == 0) (gy_t rfl) (fun hg => Bool.noConfusion (hg_.symm.trans hg)) ?_
    refine g_val (v := .slice none 0 0) (r1 == 0) (gy_t rfl) (fun hg => Bool.noConfusion (hg_.symm.trans hg)) ?_
    refine g_val (v := .slice none 0 0) (r1 == 0) (gy_t rfl) (fun hg => Bool.noConfusion (hg_.symm.trans hg)) ?_
    refine g_val (v := I 0) (r1 == 0) (gy_t rfl) (fun hg => Bool.noConfusion (hg_.symm.trans hg)) ?_
    refine g_val (v := B false) (r1 == 0) (gy_t rfl) (fun hg => Bool.noConfusion (hg_.symm.trans hg)) ?_
    refine s_val (x_pand0 (b := r1 == 0) rfl (fun hb => gd_of (c := r1 == 0) (by first | exact hb | (rw [hb]; rfl) | simp_all) (B false)) rfl) ?_
    refine s_nil ?_
    refine W.cond false rfl (fun c22z => ?_) (fun c22z => ?_)
    ·skip
     exact absurd c22z (by decide)
    ·skip
     refine W.skip ?_
     refine W.seq ?_
     refine W.region rfl ?_
     refine s_val (x_mv (v := .pointer none) rfl) ?_
     refine s_val (x_mv (v := I r1) rfl) ?_
     refine s_val (x_as (v := .pointer none) rfl) ?_
     refine s_val (x_as (v := I r1) rfl) ?_
     refine s_nil ?_
     refine W.ret ?_
     have hr_ := M.e_pure hM
     exact ⟨_, resE_tmp2 rfl, .inl (⟨r1, hr_, rfl, (H.pick [] (by decide) rfl)⟩)⟩
   ·subst hr19z
    subst vq
    try dsimp only at hM
    replace H : St w w17z [cBlk nb0_2 (List.flatten [[I r00, v_n_Lines], encF (α := Int) r02, encF (α := Leg) r03]) 120, cBlk b_1 [I n_Marks, v_n_Lines] 25] R := H.back H2_ rfl
    clear H2_
    refine s_val (x_mv (v := .tuple #[.pointer (some ⟨nb0_2, 0, none⟩), I r12]) rfl) ?_
    refine s_val (x_ext (vs := [.pointer (some ⟨nb0_2, 0, none⟩), I r12]) (v := .pointer (some ⟨nb0_2, 0, none⟩)) rfl rfl) ?_
    refine s_val (x_ext (vs := [.pointer (some ⟨nb0_2, 0, none⟩), I r12]) (v := I r12) rfl rfl) ?_
    refine s_val (x_as (v := .pointer (some ⟨nb0_2, 0, none⟩)) rfl) ?_
    refine s_val (x_as (v := I r12) rfl) ?_
    refine s_nil ?_
    refine W.seq ?_
    refine W.seq ?_
    refine W.region rfl ?_
    refine s_val (x_mv (v := I r12) rfl) ?_
    refine s_val (x_cmp (kd := .i64) (a := r12) (b := 0) (r := r12 == 0) rfl rfl rfl) ?_
    refine s_val (x_mv (v := B (r12 == 0)) rfl) ?_
    refine g_val (r12 == 0) (gy_t rfl) (fun hg => x_mv (v := .pointer (some ⟨nb0_2, 0, none⟩)) rfl) ?_
    refine g_val (r12 == 0) (gy_t rfl) (fun hg => x_mv (v := I from_) rfl) ?_
    refine g_val (r12 == 0) (gy_t rfl) (fun hg => x_mv (v := I to_) rfl) ?_
    refine g_val (r12 == 0) (gy_t rfl) (fun hg => x_nc (a := ⟨nb0_2, 0, none⟩) (gd_of (c := r12 == 0) hg (.pointer (some ⟨nb0_2, 0, none⟩)))) ?_
    refine g_val (r12 == 0) (gy_t rfl) (fun hg => x_fa (a := .pointer (some ⟨nb0_2, 0, none⟩)) (v := .pointer (some ⟨nb0_2, 2, none⟩)) (gd_of (c := r12 == 0) hg (.pointer (some ⟨nb0_2, 0, none⟩))) (fa_blk (o := 0) Fd120_1 Sz116)) ?_
    obtain ⟨sd23z, hM⟩ := M.e_grd hM
    replace sd23z := M.imp_of sd23z
    simp only [Bool.and_eq_true, decide_eq_true_eq] at sd23z
    refine g_val (r12 == 0) (gy_t rfl) (fun hg => x_ix (a := .pointer (some ⟨nb0_2, 2, none⟩)) (b := I from_) (v := .pointer (some ⟨nb0_2, 2 + Int.toNat from_ * 13, none⟩)) (gd_of (c := r12 == 0) hg (.pointer (some ⟨nb0_2, 2, none⟩))) (gd_of (c := r12 == 0) hg (I from_)) (run_indexS Try.underlying116 Sz114 (by have h1_ := sd23z.resolve_left (by rw [hg]; decide); first | exact h1_ | exact h1_.1 | exact h1_.2 | omega | (have hx_ := hg; simp at hx_; omega)) (by have h1_ := sd23z.resolve_left (by rw [hg]; decide); first | exact h1_ | exact h1_.1 | exact h1_.2 | omega | (have hx_ := hg; simp at hx_; omega)))) ?_
    obtain ⟨sd24z, hM⟩ := M.e_grd hM
    replace sd24z := M.imp_of sd24z
    simp only [Bool.and_eq_true, decide_eq_true_eq] at sd24z
    refine g_val (r12 == 0) (gy_t rfl) (fun hg => x_ix (a := .pointer (some ⟨nb0_2, 2 + Int.toNat from_ * 13, none⟩)) (b := I to_) (v := .pointer (some ⟨nb0_2, (2 + Int.toNat from_ * 13) + Int.toNat to_ * 1, none⟩)) (gd_of (c := r12 == 0) hg (.pointer (some ⟨nb0_2, 2 + Int.toNat from_ * 13, none⟩))) (gd_of (c := r12 == 0) hg (I to_)) (run_indexS Try.underlying114 Sz3 (by have h1_ := sd23z.resolve_left (by rw [hg]; decide); have h2_ := sd24z.resolve_left (by rw [hg]; decide); first | exact h1_ | exact h1_.1 | exact h1_.2 | exact h2_ | exact h2_.1 | exact h2_.2 | omega | (have hx_ := hg; simp at hx_; omega)) (by have h1_ := sd23z.resolve_left (by rw [hg]; decide); have h2_ := sd24z.resolve_left (by rw [hg]; decide); first | exact h1_ | exact h1_.1 | exact h1_.2 | exact h2_ | exact h2_.1 | exact h2_.2 | omega | (have hx_ := hg; simp at hx_; omega)))) ?_
    refine g_val (r12 == 0) (gy_t rfl) (fun hg => x_ld (p := .pointer (some ⟨nb0_2, (2 + Int.toNat from_ * 13) + Int.toNat to_ * 1, none⟩)) (v := I (r02.getD ((Int.toNat from_) * 13 + (Int.toNat to_)) 0)) (gd_of (c := r12 == 0) hg (.pointer (some ⟨nb0_2, (2 + Int.toNat from_ * 13) + Int.toNat to_ * 1, none⟩))) (ldS (α := Int) (k := 1) (off := 2) (i := (Int.toNat from_) * 13 + (Int.toNat to_)) (f := 0) (sz := 1) 0 Sc3 (H.blk (k := 0) rfl) rfl (sgo1 rfl) rfl (by decide) (by have hu_ := hf20z; have h1_ := sd23z.resolve_left (by rw [hg]; decide); have h2_ := sd24z.resolve_left (by rw [hg]; decide); first | exact h1_ | exact h1_.1 | exact h1_.2 | exact h2_ | exact h2_.1 | exact h2_.2 | omega | (have hx_ := hg; simp at hx_; omega)) (by omega) rfl)) ?_
    refine g_val (r12 == 0) (gy_t rfl) (fun hg => x_cmp (kd := .i64) (a := r02.getD ((Int.toNat from_) * 13 + (Int.toNat to_)) 0) (b := 1099511627776) (r := (r02.getD ((Int.toNat from_) * 13 + (Int.toNat to_)) 0) == 1099511627776) (gd_of (c := r12 == 0) hg (I (r02.getD ((Int.toNat from_) * 13 + (Int.toNat to_)) 0))) rfl rfl) ?_
    refine s_val (x_pand (b := r12 == 0) (r := (r02.getD ((Int.toNat from_) * 13 + (Int.toNat to_)) 0) == 1099511627776) rfl (fun hb => gd_of (c := r12 == 0) (by first | exact hb | (rw [hb]; rfl) | simp_all) (B ((r02.getD ((Int.toNat from_) * 13 + (Int.toNat to_)) 0) == 1099511627776))) rfl) ?_
    refine s_nil ?_
    refine W.cond ((r12 == 0) && ((r02.getD ((Int.toNat from_) * 13 + (Int.toNat to_)) 0) == 1099511627776)) rfl (fun c25z => ?_) (fun c25z => ?_)
    ·replace hM := M.e_t hM c25z
     refine W.region rfl ?_
     refine s_val (x_as (v := I 5) rfl) ?_
     refine s_nil ?_
     refine W.seq ?_
     refine W.region rfl ?_
     refine s_val (x_mv (v := .pointer (some ⟨nb0_2, 0, none⟩)) rfl) ?_
     refine s_val (x_mv (v := I 5) rfl) ?_
     refine s_val (x_as (v := .pointer (some ⟨nb0_2, 0, none⟩)) rfl) ?_
     refine s_val (x_as (v := I 5) rfl) ?_
     refine s_nil ?_
     refine W.ret ?_
     have hr_ := M.e_pure hM
     exact ⟨_, resE_tmp2 rfl, .inr (⟨r00, r02, r03, 5, nb0_2, hr_, rfl, (H.pick [0] (by decide) rfl), hf20z, hf21z⟩)⟩
    ·replace hM := M.e_f hM c25z
     refine W.skip ?_
     refine W.seq ?_
     refine W.region rfl ?_
     refine s_val (x_mv (v := .pointer (some ⟨nb0_2, 0, none⟩)) rfl) ?_
     refine s_val (x_mv (v := I r12) rfl) ?_
     refine s_val (x_as (v := .pointer (some ⟨nb0_2, 0, none⟩)) rfl) ?_
     refine s_val (x_as (v := I r12) rfl) ?_
     refine s_nil ?_
     refine W.ret ?_
     have hr_ := M.e_pure hM
     exact ⟨_, resE_tmp2 rfl, .inr (⟨r00, r02, r03, r12, nb0_2, hr_, rfl, (H.pick [0] (by decide) rfl), hf20z, hf21z⟩)⟩

def m_level_Between (n_Marks : Int) (n_Lines : List Line) (from_ : Int) (to_ : Int) : M (Int × Int × Int) :=
  M.bind (m_level_asked n_Marks n_Lines from_ to_ true) fun x_ => match x_ with
  | (.inl r1) => (
  bif r1 != 0 then (
  M.pure (0, 0, r1))
  else (
  M.fail))
  | (.inr (r00, r02, r03, r12)) => (
  bif r12 != 0 then (
  M.pure (0, 0, r12))
  else (
  M.grd (decide ((0 : Int) <= to_) && decide (to_ < (13 : Int))) <|
  M.grd (decide ((0 : Int) <= from_) && decide (from_ < (13 : Int))) <|
  M.grd (decide (-9223372036854775807 <= (r02.getD ((Int.toNat to_) * 13 + (Int.toNat from_)) 0)) && decide ((r02.getD ((Int.toNat to_) * 13 + (Int.toNat from_)) 0) <= 9223372036854775807)) <|
  M.pure ((-(r02.getD ((Int.toNat to_) * 13 + (Int.toNat from_)) 0)), (r02.getD ((Int.toNat from_) * 13 + (Int.toNat to_)) 0), 0)))
theorem level_Between_ok {R : List Chunk} {C_n_Lines : Cells} {v_n_Lines : Value} (n_Marks : Int) (n_Lines : List Line) (from_ : Int) (to_ : Int) (hC_n_Lines : Reads R C_n_Lines) (hs_n_Lines : Sl C_n_Lines v_n_Lines n_Lines) {r : (Int × Int × Int)} (hM : (m_level_Between n_Marks n_Lines from_ to_).Ends r) (w : World) (H : St w w [] R) : Ret Try.prog 17 #[.agg #[I n_Marks, v_n_Lines], I from_, I to_] w fun v w' => ∃ (y0 : Int) (y1 : Int) (y2 : Int), (y0, y1, y2) = r /\ v = .tuple #[.agg #[I y0, I y1], I y2] /\ St w w' [] R := by
 refine ret_of_W Try.func17 rfl rfl rfl ?_
 refine W.seq ?_
 refine W.region rfl ?_
 refine t_box (v := .agg #[I n_Marks, v_n_Lines]) (cs := [I n_Marks, v_n_Lines]) H rfl rfl ?_
 intro b_1 w1z H
 refine t_alloc (cs := [I 0, I 0]) H Al37 rfl ?_
 intro b_2 w2z H
 refine s_val (x_as (v := I 0) rfl) ?_
 refine s_nil ?_
 refine W.seq ?_
 refine W.region rfl ?_
 refine s_val (x_ld (p := .pointer (some ⟨b_1, 0, none⟩)) (v := .agg #[I n_Marks, v_n_Lines]) rfl (ldb_ag (ds := [I n_Marks, v_n_Lines]) Ag25 Sz25 (H.blk (k := 1) rfl) rfl rfl)) ?_
 refine s_val (x_mv (v := I from_) rfl) ?_
 refine s_val (x_mv (v := I to_) rfl) ?_
 obtain ⟨r4z, hx3z, hM⟩ := M.e_bind hM
 refine s_call cf56 [.agg #[I n_Marks, v_n_Lines], I from_, I to_, B true] rfl (level_asked_ok n_Marks n_Lines from_ to_ true (hC_n_Lines.app _) hs_n_Lines hx3z _ (St.give (T := [cBlk b_2 [I 0, I 0] 37, cBlk b_1 [I n_Marks, v_n_Lines] 25]) H rfl)) ?_
 rintro vq w5z (⟨r1, hr6z, hvq, H2_⟩ | ⟨r00, r02, r03, r12, nb0_3, hr7z, hvq, H2_, hf8z, hf9z⟩)
 ·subst hr6z
  subst vq
  try dsimp only at hM
  replace H : St w w5z [cBlk b_2 [I 0, I 0] 37, cBlk b_1 [I n_Marks, v_n_Lines] 25] R := H.back H2_ rfl
  clear H2_
  refine s_val (x_mv (v := .tuple #[.pointer none, I r1]) rfl) ?_
  refine s_val (x_ext (vs := [.pointer none, I r1]) (v := .pointer none) rfl rfl) ?_
  refine s_val (x_ext (vs := [.pointer none, I r1]) (v := I r1) rfl rfl) ?_
  refine s_val (x_as (v := .pointer none) rfl) ?_
  refine s_val (x_as (v := I r1) rfl) ?_
  refine s_nil ?_
  refine W.seq ?_
  refine W.seq ?_
  refine W.region rfl ?_
  refine s_val (x_mv (v := I r1) rfl) ?_
  refine s_val (x_cmp (kd := .i64) (a := r1) (b := 0) (r := r1 != 0) rfl rfl rfl) ?_
  refine s_nil ?_
  refine W.cond (r1 != 0) rfl (fun c10z => ?_) (fun c10z => ?_)
  ·replace hM := M.e_t hM c10z
   simp only [decide_eq_true_eq, decide_eq_false_iff_not, beq_iff_eq, bne_iff_ne, beq_eq_false_iff_ne, bne_eq_false_iff_eq, ne_eq, Decidable.not_not] at c10z
   refine W.seq ?_
   refine W.region rfl ?_
   refine s_val (x_bld (ps := []) (zs := [I 0, I 0]) (L' := [I 0, I 0]) rfl Try.underlying37 Al37 rfl (Bd37 Try.underlying37) (.nil)) ?_
   refine s_val (x_mv (v := I r1) rfl) ?_
   refine t_st (k := 0) (b := b_2) (off := 0) (cs := [I 0, I 0]) (vs := [I 0, I 0]) (cs' := [I 0, I 0]) (v := .agg #[I 0, I 0]) (L' := [cBlk b_2 [I 0, I 0] 37, cBlk b_1 [I n_Marks, v_n_Lines] 25]) H rfl rfl rfl Sz37 rfl rfl rfl rfl rfl rfl ?_
   intro w11z H
   refine s_val (x_as (v := I r1) rfl) ?_
   refine s_nil ?_
   refine W.ret ?_
   have hb12z := (H.blk (k := 0) rfl)
   have hr_ := M.e_pure hM
   exact ⟨_, (resE_ofn (vs := [.agg #[I 0, I 0], I r1]) rfl rfl (.cell (v := .agg #[I 0, I 0]) rfl (run_loadVar_ag (ds := [I 0, I 0]) Ag37 Sz37 hb12z rfl rfl) <| .tmp (v := I r1) rfl <| .nil)), ⟨0, 0, r1, hr_, rfl, (H.pick [] (by decide) rfl)⟩⟩
  ·replace hM := M.e_f hM c10z
   simp only [decide_eq_true_eq, decide_eq_false_iff_not, beq_iff_eq, bne_iff_ne, beq_eq_false_iff_ne, bne_eq_false_iff_eq, ne_eq, Decidable.not_not] at c10z
   refine W.skip ?_
   refine W.seq ?_
   exact (M.e_fail hM).elim
 ·subst hr7z
  subst vq
  try dsimp only at hM
  replace H : St w w5z [cBlk nb0_3 (List.flatten [[I r00, v_n_Lines], encF (α := Int) r02, encF (α := Leg) r03]) 120, cBlk b_2 [I 0, I 0] 37, cBlk b_1 [I n_Marks, v_n_Lines] 25] R := H.back H2_ rfl
  clear H2_
  refine s_val (x_mv (v := .tuple #[.pointer (some ⟨nb0_3, 0, none⟩), I r12]) rfl) ?_
  refine s_val (x_ext (vs := [.pointer (some ⟨nb0_3, 0, none⟩), I r12]) (v := .pointer (some ⟨nb0_3, 0, none⟩)) rfl rfl) ?_
  refine s_val (x_ext (vs := [.pointer (some ⟨nb0_3, 0, none⟩), I r12]) (v := I r12) rfl rfl) ?_
  refine s_val (x_as (v := .pointer (some ⟨nb0_3, 0, none⟩)) rfl) ?_
  refine s_val (x_as (v := I r12) rfl) ?_
  refine s_nil ?_
  refine W.seq ?_
  refine W.seq ?_
  refine W.region rfl ?_
  refine s_val (x_mv (v := I r12) rfl) ?_
  refine s_val (x_cmp (kd := .i64) (a := r12) (b := 0) (r := r12 != 0) rfl rfl rfl) ?_
  refine s_nil ?_
  refine W.cond (r12 != 0) rfl (fun c13z => ?_) (fun c13z => ?_)
  ·replace hM := M.e_t hM c13z
   simp only [decide_eq_true_eq, decide_eq_false_iff_not, beq_iff_eq, bne_iff_ne, beq_eq_false_iff_ne, bne_eq_false_iff_eq, ne_eq, Decidable.not_not] at c13z
   refine W.seq ?_
   refine W.region rfl ?_
   refine s_val (x_bld (ps := []) (zs := [I 0, I 0]) (L' := [I 0, I 0]) rfl Try.underlying37 Al37 rfl (Bd37 Try.underlying37) (.nil)) ?_
   refine s_val (x_mv (v := I r12) rfl) ?_
   refine t_st (k := 1) (b := b_2) (off := 0) (cs := [I 0, I 0]) (vs := [I 0, I 0]) (cs' := [I 0, I 0]) (v := .agg #[I 0, I 0]) (L' := [cBlk nb0_3 (List.flatten [[I r00, v_n_Lines], encF (α := Int) r02, encF (α := Leg) r03]) 120, cBlk b_2 [I 0, I 0] 37, cBlk b_1 [I n_Marks, v_n_Lines] 25]) H rfl rfl rfl Sz37 rfl rfl rfl rfl rfl rfl ?_
   intro w14z H
   refine s_val (x_as (v := I r12) rfl) ?_
   refine s_nil ?_
   refine W.ret ?_
   have hb15z := (H.blk (k := 1) rfl)
   have hr_ := M.e_pure hM
   exact ⟨_, (resE_ofn (vs := [.agg #[I 0, I 0], I r12]) rfl rfl (.cell (v := .agg #[I 0, I 0]) rfl (run_loadVar_ag (ds := [I 0, I 0]) Ag37 Sz37 hb15z rfl rfl) <| .tmp (v := I r12) rfl <| .nil)), ⟨0, 0, r12, hr_, rfl, (H.pick [] (by decide) rfl)⟩⟩
  ·replace hM := M.e_f hM c13z
   simp only [decide_eq_true_eq, decide_eq_false_iff_not, beq_iff_eq, bne_iff_ne, beq_eq_false_iff_ne, bne_eq_false_iff_eq, ne_eq, Decidable.not_not] at c13z
   refine W.skip ?_
   refine W.seq ?_
   refine W.draw (fun W => St w W [cBlk nb0_3 (List.flatten [[I r00, v_n_Lines], encF (α := Int) r02, encF (α := Leg) r03]) 120, cBlk b_1 [I n_Marks, v_n_Lines] 25] R) [(0, true), (1, true), (2, true), (3, true), (4, true), (5, true), (6, true), (7, true), (8, true), (9, true), (10, true), (11, true), (12, true), (13, true), (14, true), (15, true), (16, true), (17, true), (18, false), (19, true)] mixed (by decide +kernel) rfl ?_
   intro w16z hx_
   replace H : St w w16z [cBlk nb0_3 (List.flatten [[I r00, v_n_Lines], encF (α := Int) r02, encF (α := Leg) r03]) 120, cBlk b_2 [I 0, I 0] 37, cBlk b_1 [I n_Marks, v_n_Lines] 25] R := H.ext hx_
   clear hx_
   refine ⟨(H.pick [0, 2] (by decide) rfl), ?_⟩
   refine d_q rfl (fun w' H => x_mv (v := .pointer (some ⟨nb0_3, 0, none⟩)) rfl) ?_
   refine d_q rfl (fun w' H => x_mv (v := I to_) rfl) ?_
   refine d_q rfl (fun w' H => x_mv (v := I from_) rfl) ?_
   refine d_q rfl (fun w' H => x_nc (a := ⟨nb0_3, 0, none⟩) rfl) ?_
   refine d_q rfl (fun w' H => x_fa (a := .pointer (some ⟨nb0_3, 0, none⟩)) (v := .pointer (some ⟨nb0_3, 2, none⟩)) rfl (fa_blk (o := 0) Fd120_1 Sz116)) ?_
   obtain ⟨sd17z, hM⟩ := M.e_grd hM
   simp only [Bool.and_eq_true, decide_eq_true_eq] at sd17z
   refine d_q rfl (fun w' H => x_ix (a := .pointer (some ⟨nb0_3, 2, none⟩)) (b := I to_) (v := .pointer (some ⟨nb0_3, 2 + Int.toNat to_ * 13, none⟩)) rfl rfl (run_indexS Try.underlying116 Sz114 (by omega) (by omega))) ?_
   obtain ⟨sd18z, hM⟩ := M.e_grd hM
   simp only [Bool.and_eq_true, decide_eq_true_eq] at sd18z
   refine d_q rfl (fun w' H => x_ix (a := .pointer (some ⟨nb0_3, 2 + Int.toNat to_ * 13, none⟩)) (b := I from_) (v := .pointer (some ⟨nb0_3, (2 + Int.toNat to_ * 13) + Int.toNat from_ * 1, none⟩)) rfl rfl (run_indexS Try.underlying114 Sz3 (by omega) (by omega))) ?_
   refine d_q rfl (fun w' H => x_ld (p := .pointer (some ⟨nb0_3, (2 + Int.toNat to_ * 13) + Int.toNat from_ * 1, none⟩)) (v := I (r02.getD ((Int.toNat to_) * 13 + (Int.toNat from_)) 0)) rfl (ldS (α := Int) (k := 1) (off := 2) (i := (Int.toNat to_) * 13 + (Int.toNat from_)) (f := 0) (sz := 1) 0 Sc3 (H.blk (k := 0) rfl) rfl (sgo1 rfl) rfl (by decide) (by have hl_ := hf8z; omega) (by omega) rfl)) ?_
   obtain ⟨sd19z, hM⟩ := M.e_grd hM
   simp only [Bool.and_eq_true, decide_eq_true_eq] at sd19z
   refine d_q rfl (fun w' H => x_neg (a := r02.getD ((Int.toNat to_) * 13 + (Int.toNat from_)) 0) rfl (by omega)) ?_
   refine d_q rfl (fun w' H => x_mv (v := .pointer (some ⟨nb0_3, 0, none⟩)) rfl) ?_
   refine d_q rfl (fun w' H => x_mv (v := I from_) rfl) ?_
   refine d_q rfl (fun w' H => x_mv (v := I to_) rfl) ?_
   refine d_q rfl (fun w' H => x_nc (a := ⟨nb0_3, 0, none⟩) rfl) ?_
   refine d_q rfl (fun w' H => x_fa (a := .pointer (some ⟨nb0_3, 0, none⟩)) (v := .pointer (some ⟨nb0_3, 2, none⟩)) rfl (fa_blk (o := 0) Fd120_1 Sz116)) ?_
   refine d_q rfl (fun w' H => x_ix (a := .pointer (some ⟨nb0_3, 2, none⟩)) (b := I from_) (v := .pointer (some ⟨nb0_3, 2 + Int.toNat from_ * 13, none⟩)) rfl rfl (run_indexS Try.underlying116 Sz114 (by omega) (by omega))) ?_
   refine d_q rfl (fun w' H => x_ix (a := .pointer (some ⟨nb0_3, 2 + Int.toNat from_ * 13, none⟩)) (b := I to_) (v := .pointer (some ⟨nb0_3, (2 + Int.toNat from_ * 13) + Int.toNat to_ * 1, none⟩)) rfl rfl (run_indexS Try.underlying114 Sz3 (by omega) (by omega))) ?_
   refine d_q rfl (fun w' H => x_ld (p := .pointer (some ⟨nb0_3, (2 + Int.toNat from_ * 13) + Int.toNat to_ * 1, none⟩)) (v := I (r02.getD ((Int.toNat from_) * 13 + (Int.toNat to_)) 0)) rfl (ldS (α := Int) (k := 1) (off := 2) (i := (Int.toNat from_) * 13 + (Int.toNat to_)) (f := 0) (sz := 1) 0 Sc3 (H.blk (k := 0) rfl) rfl (sgo1 rfl) rfl (by decide) (by have hl_ := hf8z; omega) (by omega) rfl)) ?_
   refine d_q rfl (fun w' H => x_bld (ps := [(0, I (-(r02.getD ((Int.toNat to_) * 13 + (Int.toNat from_)) 0))), (1, I (r02.getD ((Int.toNat from_) * 13 + (Int.toNat to_)) 0))]) (zs := [I 0, I 0]) (L' := [I (-(r02.getD ((Int.toNat to_) * 13 + (Int.toNat from_)) 0)), I (r02.getD ((Int.toNat from_) * 13 + (Int.toNat to_)) 0)]) rfl Try.underlying37 Al37 rfl (Bd37 Try.underlying37) (.cons (cs := [I (-(r02.getD ((Int.toNat to_) * 13 + (Int.toNat from_)) 0))]) rfl rfl rfl rfl rfl <| .cons (cs := [I (r02.getD ((Int.toNat from_) * 13 + (Int.toNat to_)) 0)]) rfl rfl rfl rfl rfl <| .nil)) ?_
   refine d_l rfl ?_
   refine t_st (k := 1) (b := b_2) (off := 0) (cs := [I 0, I 0]) (vs := [I (-(r02.getD ((Int.toNat to_) * 13 + (Int.toNat from_)) 0)), I (r02.getD ((Int.toNat from_) * 13 + (Int.toNat to_)) 0)]) (cs' := [I (-(r02.getD ((Int.toNat to_) * 13 + (Int.toNat from_)) 0)), I (r02.getD ((Int.toNat from_) * 13 + (Int.toNat to_)) 0)]) (v := .agg #[I (-(r02.getD ((Int.toNat to_) * 13 + (Int.toNat from_)) 0)), I (r02.getD ((Int.toNat from_) * 13 + (Int.toNat to_)) 0)]) (L' := [cBlk nb0_3 (List.flatten [[I r00, v_n_Lines], encF (α := Int) r02, encF (α := Leg) r03]) 120, cBlk b_2 [I (-(r02.getD ((Int.toNat to_) * 13 + (Int.toNat from_)) 0)), I (r02.getD ((Int.toNat from_) * 13 + (Int.toNat to_)) 0)] 37, cBlk b_1 [I n_Marks, v_n_Lines] 25]) H rfl rfl rfl Sz37 rfl rfl rfl rfl rfl rfl ?_
   intro w20z H
   refine s_nil ⟨(H.pick [0, 2] (by decide) rfl), ?_⟩
   refine d_q rfl (fun w' H => x_as (v := I 0) rfl) ?_
   refine d_nil ?_
   refine W.ret ?_
   have hb21z := (H.blk (k := 1) rfl)
   have hr_ := M.e_pure hM
   exact ⟨_, (resE_ofn (vs := [.agg #[I (-(r02.getD ((Int.toNat to_) * 13 + (Int.toNat from_)) 0)), I (r02.getD ((Int.toNat from_) * 13 + (Int.toNat to_)) 0)], I 0]) rfl rfl (.cell (v := .agg #[I (-(r02.getD ((Int.toNat to_) * 13 + (Int.toNat from_)) 0)), I (r02.getD ((Int.toNat from_) * 13 + (Int.toNat to_)) 0)]) rfl (run_loadVar_ag (ds := [I (-(r02.getD ((Int.toNat to_) * 13 + (Int.toNat from_)) 0)), I (r02.getD ((Int.toNat from_) * 13 + (Int.toNat to_)) 0)]) Ag37 Sz37 hb21z rfl rfl) <| .tmp (v := I 0) rfl <| .nil)), ⟨(-(r02.getD ((Int.toNat to_) * 13 + (Int.toNat from_)) 0)), (r02.getD ((Int.toNat from_) * 13 + (Int.toNat to_)) 0), 0, hr_, rfl, (H.pick [] (by decide) rfl)⟩⟩

def m_slices_IndexFunc_level_Leg_b0 (s : List Leg) (f : Leg -> M Bool) : Nat -> M (Nat ⊕ (Int ⊕ Unit)) := fun s2 =>
  bif decide ((s2 : Int) < (s.length : Int)) then (
  M.grd (decide ((s2 : Int) < (s.length : Int))) <|
  M.bind (f (s.getD s2 default)) fun r2 =>
  bif r2 then (
  M.pure (.inr (.inl (s2 : Int))))
  else (
  M.pure (.inl (s2 + 1))))
  else (
  M.pure (.inr (.inr ())))
def m_slices_IndexFunc_level_Leg (s : List Leg) (f : Leg -> M Bool) : M Int :=
  M.bind (M.iter (m_slices_IndexFunc_level_Leg_b0 s f) 0) fun x_ => match x_ with
  | (.inl s3) => (
  M.pure s3)
  | (.inr (_ : Unit)) => (
  M.pure (-1))
theorem slices_IndexFunc_level_Leg_ok {R : List Chunk} {C_s : Cells} {v_s : Value} {v_f : Value} (s : List Leg) (f : Leg -> M Bool) (hC_s : Reads R C_s) (hs_s : Sl C_s v_s s) (hf_f : FnM Try.prog R v_f f) {r : Int} (hM : (m_slices_IndexFunc_level_Leg s f).Ends r) (w : World) (H : St w w [] R) : Ret Try.prog 88 #[v_s, v_f] w fun v w' => ∃ (y0 : Int), y0 = r /\ v = I y0 /\ St w w' [] R := by
 refine ret_of_W Try.func88 rfl rfl rfl ?_
 refine W.seq ?_
 refine W.region rfl ?_
 refine s_val (x_as (v := I 0) rfl) ?_
 refine s_nil ?_
 refine W.seq ?_
 refine W.seq ?_
 refine W.region rfl ?_
 refine s_val (x_mv (v := v_s) rfl) ?_
 have hl1z := (hs_s).len_le
 refine s_val (x_lenS T88.und rfl hs_s) ?_
 refine s_val (x_mv (v := I 0) rfl) ?_
 refine s_nil ?_
 refine W.block ?_
 obtain ⟨ex2z, hi3z, hk4z⟩ := M.e_bind hM
 obtain ⟨m0_, hi3z⟩ := M.e_iter hi3z
 refine W.loop (fun m σ W => ∃ (s2 : Nat) (ρ : Env), σ = upds ρ [(0, v_s), (1, v_f), (7, I (s.length : Int)), (8, I (s2 : Int))] /\ M.iterN (m_slices_IndexFunc_level_Leg_b0 s f) m s2 = some ex2z /\ St w W [] R) ?_ ?_
 ·exact ⟨_, 0, _, upds_of _ _ ⟨rfl, rfl, rfl, rfl, trivial⟩, hi3z, H⟩
 ·rintro m7z σ w5z ⟨s2, ρ, rfl, hI6z, H⟩
  obtain ⟨m8z, lt9z, x10z, hM, hN11z⟩ := M.e_iterN hI6z
  simp only [m_slices_IndexFunc_level_Leg_b0] at hM
  clear hI6z
  refine W.seq ?_
  refine W.region rfl ?_
  refine s_val (x_cmp (kd := .i64) (a := (s2 : Int)) (b := (s.length : Int)) (r := decide ((s2 : Int) < (s.length : Int))) rfl rfl rfl) ?_
  refine s_nil ?_
  refine W.seq ?_
  refine W.cond (decide ((s2 : Int) < (s.length : Int))) rfl (fun c12z => ?_) (fun c12z => ?_)
  ·replace hM := M.e_t hM c12z
   simp only [decide_eq_true_eq, decide_eq_false_iff_not, beq_iff_eq, bne_iff_ne, beq_eq_false_iff_ne, bne_eq_false_iff_eq, ne_eq, Decidable.not_not] at c12z
   refine W.skip ?_
   refine W.seq ?_
   refine W.block ?_
   refine W.seq ?_
   refine W.region rfl ?_
   refine s_val (x_mv (v := I (s2 : Int)) rfl) ?_
   refine s_val (x_as (v := I (s2 : Int)) rfl) ?_
   refine s_nil ?_
   refine W.seq ?_
   refine W.region rfl ?_
   refine s_val (x_mv (v := v_f) rfl) ?_
   refine s_val (x_mv (v := v_s) rfl) ?_
   refine s_val (x_mv (v := I (s2 : Int)) rfl) ?_
   obtain ⟨sd13z, hM⟩ := M.e_grd hM
   simp only [Bool.and_eq_true, decide_eq_true_eq] at sd13z
   refine s_val (x_ix (a := v_s) (b := I (s2 : Int)) (v := vat v_s 2 (Int.toNat (s2 : Int))) rfl rfl (Sl.ix (α := Leg) T88.und T88.size hs_s (by omega) (by omega))) ?_
   refine s_val (x_ld (p := vat v_s 2 (Int.toNat (s2 : Int))) (v := .agg #[I ((s.getD s2 default).line), B ((s.getD s2 default).back)]) rfl (ld_ag Ag91 Sz91 (At.mono (Leg_atA hs_s (i := (s2 : Int)) (by omega) (by omega)) (hC_s.at H)))) ?_
   obtain ⟨r2, hx15z, hM⟩ := M.e_bind hM
   refine t_callM H hf_f rfl rfl (s.getD s2 default) Reads.none ⟨_, rfl, rfl⟩ hx15z ?_
   intro w14z H
   refine s_nil ?_
   refine W.cond r2 rfl (fun c16z => ?_) (fun c16z => ?_)
   ·replace hM := M.e_t hM c16z
    refine W.seq ?_
    refine W.region rfl ?_
    refine s_val (x_mv (v := I (s2 : Int)) rfl) ?_
    refine s_val (x_as (v := I (s2 : Int)) rfl) ?_
    refine s_nil ?_
    refine W.ret ?_
    have hX17z := M.e_inr hM hN11z
    subst hX17z
    replace hM := hk4z
    try dsimp only at hM
    have hr_ := M.e_pure hM
    exact ⟨_, resE_tmp rfl, ⟨(s2 : Int), hr_, rfl, H⟩⟩
   ·replace hM := M.e_f hM c16z
    refine W.skip ?_
    refine W.region rfl ?_
    refine s_val (x_ari (a := (s2 : Int)) (b := 1) (r := (s2 : Int) + 1) rfl rfl rfl (by omega)) ?_
    refine s_val (x_mv (v := I ((s2 : Int) + 1)) rfl) ?_
    refine s_nil ?_
    exact ⟨m8z, lt9z, s2 + 1, _, upds_of _ _ ⟨rfl, rfl, rfl, rfl, trivial⟩, M.e_inl hM hN11z, H⟩
  ·replace hM := M.e_f hM c12z
   simp only [decide_eq_true_eq, decide_eq_false_iff_not, beq_iff_eq, bne_iff_ne, beq_eq_false_iff_ne, bne_eq_false_iff_eq, ne_eq, Decidable.not_not] at c12z
   refine W.exit ?_
   have hX18z := M.e_inr hM hN11z
   subst hX18z
   replace hM := hk4z
   try dsimp only at hM
   refine W.seq ?_
   refine W.region rfl ?_
   refine s_val (x_as (v := I (-1)) rfl) ?_
   refine s_nil ?_
   refine W.ret ?_
   have hr_ := M.e_pure hM
   exact ⟨_, resE_tmp rfl, ⟨(-1), hr_, rfl, H⟩⟩

def m_slices_ContainsFunc_level_Leg (s : List Leg) (f : Leg -> M Bool) : M Bool :=
  M.bind (m_slices_IndexFunc_level_Leg s f) fun r2 =>
  M.pure (decide (0 <= r2))
theorem slices_ContainsFunc_level_Leg_ok {R : List Chunk} {C_s : Cells} {v_s : Value} {v_f : Value} (s : List Leg) (f : Leg -> M Bool) (hC_s : Reads R C_s) (hs_s : Sl C_s v_s s) (hf_f : FnM Try.prog R v_f f) {r : Bool} (hM : (m_slices_ContainsFunc_level_Leg s f).Ends r) (w : World) (H : St w w [] R) : Ret Try.prog 53 #[v_s, v_f] w fun v w' => ∃ (y0 : Bool), y0 = r /\ v = B y0 /\ St w w' [] R := by
 refine ret_of_W Try.func53 rfl rfl rfl ?_
 refine W.seq ?_
 refine W.region rfl ?_
 refine s_val (x_as (v := B false) rfl) ?_
 refine s_nil ?_
 refine W.seq ?_
 refine W.region rfl ?_
 refine s_val (x_mv (v := v_s) rfl) ?_
 refine s_val (x_mv (v := v_f) rfl) ?_
 obtain ⟨r2z, hx1z, hM⟩ := M.e_bind hM
 refine s_call cf88 [v_s, v_f] rfl (slices_IndexFunc_level_Leg_ok s f (hC_s.app _) hs_s (hf_f.app _) hx1z _ (St.give (T := []) H rfl)) ?_
 rintro vq w3z ⟨r2, hr4z, hvq, H2_⟩
 subst hr4z
 subst vq
 try dsimp only at hM
 replace H : St w w3z [] R := H.back H2_ rfl
 clear H2_
 refine s_val (x_cmp (kd := .i64) (a := r2) (b := 0) (r := decide (0 <= r2)) rfl rfl rfl) ?_
 refine s_val (x_as (v := B (decide (0 <= r2))) rfl) ?_
 refine s_nil ?_
 refine W.ret ?_
 have hr_ := M.e_pure hM
 exact ⟨_, resE_tmp rfl, ⟨(decide (0 <= r2)), hr_, rfl, H⟩⟩

def m_level_every_level_Leg__1 (x : Leg) (k02 : Leg -> M Bool) : M Bool :=
  M.bind (k02 x) fun r2 =>
  M.pure (!r2)
theorem level_every_level_Leg__1_ok {R : List Chunk} {b_k0 : Nat} {v_k02 : Value} (x : Leg) (k02 : Leg -> M Bool) (hf_k02 : FnM Try.prog R v_k02 k02) (h_b_k0 : Has R (cBlk b_k0 [v_k02] 106)) {r : Bool} (hM : (m_level_every_level_Leg__1 x k02).Ends r) (w : World) (H : St w w [] R) : Ret Try.prog 98 #[.agg #[I x.line, B x.back], .pointer (some ⟨b_k0, 0, none⟩)] w fun v w' => ∃ (y0 : Bool), y0 = r /\ v = B y0 /\ St w w' [] R := by
 refine ret_of_W Try.func98 rfl rfl rfl ?_
 refine W.seq ?_
 refine W.region rfl ?_
 refine t_box (v := .agg #[I x.line, B x.back]) (cs := [I x.line, B x.back]) H rfl rfl ?_
 intro b_1 w1z H
 refine s_val (x_as (v := B false) rfl) ?_
 refine s_nil ?_
 refine W.seq ?_
 refine W.region rfl ?_
 refine s_val (x_ld (p := .pointer (some ⟨b_k0, 0, none⟩)) (v := v_k02) rfl (ldb_sc Sc106 (h_b_k0.blk H) rfl)) ?_
 refine s_val (x_ld (p := .pointer (some ⟨b_1, 0, none⟩)) (v := .agg #[I x.line, B x.back]) rfl (ldb_ag (ds := [I x.line, B x.back]) Ag91 Sz91 (H.blk (k := 0) rfl) rfl rfl)) ?_
 obtain ⟨r2, hx3z, hM⟩ := M.e_bind hM
 refine t_callM H hf_k02 rfl rfl x Reads.none ⟨_, rfl, rfl⟩ hx3z ?_
 intro w2z H
 refine s_val (x_not (b := r2) rfl) ?_
 refine s_val (x_as (v := B (!r2)) rfl) ?_
 refine s_nil ?_
 refine W.ret ?_
 have hr_ := M.e_pure hM
 exact ⟨_, resE_tmp rfl, ⟨(!r2), hr_, rfl, (H.pick [] (by decide) rfl)⟩⟩

def m_level_every_level_Leg (l : List Leg) (so : Leg -> M Bool) : M Bool :=
  M.bind (m_slices_ContainsFunc_level_Leg l (fun xqz => m_level_every_level_Leg__1 xqz so)) fun r2 =>
  M.pure (!r2)
theorem level_every_level_Leg_ok {R : List Chunk} {C_l : Cells} {v_l : Value} {v_so : Value} (l : List Leg) (so : Leg -> M Bool) (hC_l : Reads R C_l) (hs_l : Sl C_l v_l l) (hf_so : FnM Try.prog R v_so so) {r : Bool} (hM : (m_level_every_level_Leg l so).Ends r) (w : World) (H : St w w [] R) : Ret Try.prog 81 #[v_l, v_so] w fun v w' => ∃ (y0 : Bool), y0 = r /\ v = B y0 /\ St w w' [] R := by
 refine ret_of_W Try.func81 rfl rfl rfl ?_
 refine W.seq ?_
 refine W.region rfl ?_
 refine t_box (v := v_so) (cs := [v_so]) H rfl (FnM.cells hf_so) ?_
 intro b_1 w1z H
 refine s_val (x_as (v := B false) rfl) ?_
 refine s_nil ?_
 refine W.seq ?_
 refine W.region rfl ?_
 refine s_val (x_mv (v := v_l) rfl) ?_
 refine s_val (x_mf (fs := []) (cs := [.pointer (some ⟨b_1, 0, none⟩)]) rfl rfl) ?_
 obtain ⟨r3z, hx2z, hM⟩ := M.e_bind hM
 refine s_call cf53 [v_l, .func (.func 98) #[] #[.pointer (some ⟨b_1, 0, none⟩)]] rfl (slices_ContainsFunc_level_Leg_ok l (fun xqz => m_level_every_level_Leg__1 xqz so) (hC_l.app _) hs_l ⟨98, [.pointer (some ⟨b_1, 0, none⟩)], rfl, cf98, fun wqz Lqz Cqz vqz xqz bqz hsqz hCqz hAqz hpqz => by obtain rfl := Leg_arg hAqz; exact (level_every_level_Leg__1_ok xqz so (FnM.app (hf_so.app _) _) (Has.app (Has.here (k := 0) rfl) _) hpqz wqz (St.refl hsqz)).mono fun vqz wqz ⟨yqz, hrqz, hvqz, Hqz⟩ => by subst hrqz; exact ⟨hvqz, Hqz⟩⟩ hx2z _ (St.give (T := [cBlk b_1 [v_so] 106]) H rfl)) ?_
 rintro vq w4z ⟨r2, hr5z, hvq, H2_⟩
 subst hr5z
 subst vq
 try dsimp only at hM
 replace H : St w w4z [cBlk b_1 [v_so] 106] R := H.back H2_ rfl
 clear H2_
 refine s_val (x_not (b := r2) rfl) ?_
 refine s_val (x_as (v := B (!r2)) rfl) ?_
 refine s_nil ?_
 refine W.ret ?_
 have hr_ := M.e_pure hM
 exact ⟨_, resE_tmp rfl, ⟨(!r2), hr_, rfl, (H.pick [] (by decide) rfl)⟩⟩

def m_level_Rises_1 (g : Leg) (k00 : Int) (k01 : List Line) : M Bool :=
  M.bind (m_level_in g.line 0 ((k01.length : Int) - 1)) fun r2 =>
  M.pure r2
theorem level_Rises_1_ok {R : List Chunk} {b_k0 : Nat} {C_k01 : Cells} {v_k01 : Value} (g : Leg) (k00 : Int) (k01 : List Line) (hC_k01 : Reads R C_k01) (hs_k01 : Sl C_k01 v_k01 k01) (h_b_k0 : Has R (cBlk b_k0 [I k00, v_k01] 25)) {r : Bool} (hM : (m_level_Rises_1 g k00 k01).Ends r) (w : World) (H : St w w [] R) : Ret Try.prog 82 #[.agg #[I g.line, B g.back], .pointer (some ⟨b_k0, 0, none⟩)] w fun v w' => ∃ (y0 : Bool), y0 = r /\ v = B y0 /\ St w w' [] R := by
 refine ret_of_W Try.func82 rfl rfl rfl ?_
 refine W.seq ?_
 refine W.region rfl ?_
 refine t_box (v := .agg #[I g.line, B g.back]) (cs := [I g.line, B g.back]) H rfl rfl ?_
 intro b_1 w1z H
 refine s_val (x_as (v := B false) rfl) ?_
 refine s_nil ?_
 refine W.seq ?_
 refine W.region rfl ?_
 refine s_val (x_fa (a := .pointer (some ⟨b_1, 0, none⟩)) (v := .pointer (some ⟨b_1, 0, none⟩)) rfl (fa_blk (o := 0) Fd91_0 Sz3)) ?_
 refine s_val (x_ld (p := .pointer (some ⟨b_1, 0, none⟩)) (v := I g.line) rfl (ldb_sc Sc3 (H.blk (k := 0) rfl) rfl)) ?_
 refine s_val (x_fa (a := .pointer (some ⟨b_k0, 0, none⟩)) (v := .pointer (some ⟨b_k0, 1, none⟩)) rfl (fa_blk (o := 0) Fd25_1 Sz23)) ?_
 refine s_val (x_ld (p := .pointer (some ⟨b_k0, 1, none⟩)) (v := v_k01) rfl (ldb_sc Sc23 (h_b_k0.blk H) rfl)) ?_
 have hl2z := (hs_k01).len_le
 refine s_val (x_lenS T23.und rfl hs_k01) ?_
 refine s_val (x_ari (a := (k01.length : Int)) (b := 1) (r := (k01.length : Int) - 1) rfl rfl rfl (by omega)) ?_
 obtain ⟨r4z, hx3z, hM⟩ := M.e_bind hM
 refine s_call cf68 [I g.line, I 0, I ((k01.length : Int) - 1)] rfl (level_in_ok g.line 0 ((k01.length : Int) - 1) hx3z _ (St.give (T := [cBlk b_1 [I g.line, B g.back] 91]) H rfl)) ?_
 rintro vq w5z ⟨r2, hr6z, hvq, H2_⟩
 subst hr6z
 subst vq
 try dsimp only at hM
 replace H : St w w5z [cBlk b_1 [I g.line, B g.back] 91] R := H.back H2_ rfl
 clear H2_
 refine s_val (x_as (v := B r2) rfl) ?_
 refine s_nil ?_
 refine W.ret ?_
 have hr_ := M.e_pure hM
 exact ⟨_, resE_tmp rfl, ⟨r2, hr_, rfl, (H.pick [] (by decide) rfl)⟩⟩

def m_level_Rises_b0 (n_Marks : Int) (n_Lines : List Line) (walk : List Leg) : (Int × Int × Nat) -> M ((Int × Int × Nat) ⊕ (Unit ⊕ (Int × Int))) := fun (s, rise, s2) =>
  bif decide ((s2 : Int) < (walk.length : Int)) then (
  M.grd (decide ((s2 : Int) < (walk.length : Int))) <|
  M.bind (m_level_survey_start n_Marks n_Lines (walk.getD s2 default)) fun r6 =>
  bif r6 != s then (
  M.pure (.inr (.inl ())))
  else (
  M.bind (m_level_survey_goal n_Marks n_Lines (walk.getD s2 default)) fun r7 =>
  M.bind (m_level_survey_rise n_Marks n_Lines (walk.getD s2 default)) fun r8 =>
  M.grd (decide ((-9223372036854775808 : Int) <= (rise + r8)) && decide ((rise + r8) <= (9223372036854775807 : Int))) <|
  M.pure (.inl (r7, rise + r8, s2 + 1))))
  else (
  M.pure (.inr (.inr (s, rise))))
def m_level_Rises (n_Marks : Int) (n_Lines : List Line) (walk : List Leg) : M (Int × Int × Int × Int) :=
  M.bind (m_level_Check n_Marks n_Lines) fun r2 =>
  bif r2 != 0 then (
  M.pure (0, 0, 0, r2))
  else (
  M.bind (m_level_in (walk.length : Int) 1 60) fun r3 =>
  bif !r3 then (
  M.pure (0, 0, 0, 3))
  else (
  M.bind (m_level_every_level_Leg walk (fun xqz => m_level_Rises_1 xqz n_Marks n_Lines)) fun r4 =>
  bif !r4 then (
  M.pure (0, 0, 0, 2))
  else (
  M.grd (decide (0 < (walk.length : Int))) <|
  M.bind (m_level_survey_start n_Marks n_Lines (walk.getD 0 default)) fun r5 =>
  M.bind (M.iter (m_level_Rises_b0 n_Marks n_Lines walk) (r5, 0, 0)) fun x_ => match x_ with
  | (.inl (_ : Unit)) => (
  M.pure (0, 0, 0, 9))
  | (.inr (s3, rise2)) => (
  M.pure (r5, s3, rise2, 0)))))
theorem level_Rises_ok {R : List Chunk} {C_n_Lines : Cells} {v_n_Lines : Value} {C_walk : Cells} {v_walk : Value} (n_Marks : Int) (n_Lines : List Line) (walk : List Leg) (hC_n_Lines : Reads R C_n_Lines) (hs_n_Lines : Sl C_n_Lines v_n_Lines n_Lines) (hC_walk : Reads R C_walk) (hs_walk : Sl C_walk v_walk walk) {r : (Int × Int × Int × Int)} (hM : (m_level_Rises n_Marks n_Lines walk).Ends r) (w : World) (H : St w w [] R) : Ret Try.prog 45 #[.agg #[I n_Marks, v_n_Lines], v_walk] w fun v w' => ∃ (y0 : Int) (y1 : Int) (y2 : Int) (y3 : Int), (y0, y1, y2, y3) = r /\ v = .tuple #[I y0, I y1, I y2, I y3] /\ St w w' [] R := by
 refine ret_of_W Try.func45 rfl rfl rfl ?_
 refine W.seq ?_
 refine W.region rfl ?_
 refine t_box (v := .agg #[I n_Marks, v_n_Lines]) (cs := [I n_Marks, v_n_Lines]) H rfl rfl ?_
 intro b_1 w1z H
 refine s_val (x_as (v := I 0) rfl) ?_
 refine s_val (x_as (v := I 0) rfl) ?_
 refine s_val (x_as (v := I 0) rfl) ?_
 refine s_val (x_as (v := I 0) rfl) ?_
 refine s_nil ?_
 refine W.seq ?_
 refine W.region rfl ?_
 refine s_val (x_ld (p := .pointer (some ⟨b_1, 0, none⟩)) (v := .agg #[I n_Marks, v_n_Lines]) rfl (ldb_ag (ds := [I n_Marks, v_n_Lines]) Ag25 Sz25 (H.blk (k := 0) rfl) rfl rfl)) ?_
 refine s_val (x_bld (ps := [(0, .agg #[I n_Marks, v_n_Lines])]) (zs := (List.flatten [[I 0, .slice none 0 0], encF (α := Int) (List.replicate 169 0), encF (α := Leg) (List.replicate 169 default)])) (L' := (List.flatten [[I n_Marks, v_n_Lines], encF (α := Int) (List.replicate 169 0), encF (α := Leg) (List.replicate 169 default)])) rfl Try.underlying120 Al120 rfl (Bd120 Try.underlying120) (.cons (cs := [I n_Marks, v_n_Lines]) rfl rfl rfl (by kernel_rfl) rfl <| .nil)) ?_
 refine t_box (v := .agg (List.flatten [[I n_Marks, v_n_Lines], encF (α := Int) (List.replicate 169 0), encF (α := Leg) (List.replicate 169 default)]).toArray) (cs := (List.flatten [[I n_Marks, v_n_Lines], encF (α := Int) (List.replicate 169 0), encF (α := Leg) (List.replicate 169 default)])) H rfl rfl ?_
 intro b_2 w2z H
 refine s_val (x_as (v := .pointer (some ⟨b_2, 0, none⟩)) rfl) ?_
 refine s_nil ?_
 refine W.seq ?_
 refine W.region rfl ?_
 refine s_val (x_ld (p := .pointer (some ⟨b_1, 0, none⟩)) (v := .agg #[I n_Marks, v_n_Lines]) rfl (ldb_ag (ds := [I n_Marks, v_n_Lines]) Ag25 Sz25 (H.blk (k := 1) rfl) rfl rfl)) ?_
 obtain ⟨r4z, hx3z, hM⟩ := M.e_bind hM
 refine s_call cf37 [.agg #[I n_Marks, v_n_Lines]] rfl (level_Check_ok n_Marks n_Lines (hC_n_Lines.app _) hs_n_Lines hx3z _ (St.give (T := [cBlk b_2 (List.flatten [[I n_Marks, v_n_Lines], encF (α := Int) (List.replicate 169 0), encF (α := Leg) (List.replicate 169 default)]) 120, cBlk b_1 [I n_Marks, v_n_Lines] 25]) H rfl)) ?_
 rintro vq w5z ⟨r2, hr6z, hvq, H2_⟩
 subst hr6z
 subst vq
 try dsimp only at hM
 replace H : St w w5z [cBlk b_2 (List.flatten [[I n_Marks, v_n_Lines], encF (α := Int) (List.replicate 169 0), encF (α := Leg) (List.replicate 169 default)]) 120, cBlk b_1 [I n_Marks, v_n_Lines] 25] R := H.back H2_ rfl
 clear H2_
 refine s_val (x_as (v := I r2) rfl) ?_
 refine s_nil ?_
 refine W.seq ?_
 refine W.block ?_
 refine W.seq ?_
 refine W.region rfl ?_
 refine s_val (x_mv (v := I r2) rfl) ?_
 refine s_val (x_cmp (kd := .i64) (a := r2) (b := 0) (r := r2 != 0) rfl rfl rfl) ?_
 refine s_val (x_as (v := B (r2 != 0)) rfl) ?_
 refine s_nil ?_
 refine W.cond (r2 != 0) rfl (fun c7z => ?_) (fun c7z => ?_)
 ·replace hM := M.e_t hM c7z
  simp only [decide_eq_true_eq, decide_eq_false_iff_not, beq_iff_eq, bne_iff_ne, beq_eq_false_iff_ne, bne_eq_false_iff_eq, ne_eq, Decidable.not_not] at c7z
  refine W.seq ?_
  refine W.region rfl ?_
  refine s_val (x_mv (v := I r2) rfl) ?_
  refine s_val (x_as (v := I 0) rfl) ?_
  refine s_val (x_as (v := I 0) rfl) ?_
  refine s_val (x_as (v := I 0) rfl) ?_
  refine s_val (x_as (v := I r2) rfl) ?_
  refine s_nil ?_
  refine W.ret ?_
  have hr_ := M.e_pure hM
  exact ⟨_, resE_tmp4 rfl, ⟨0, 0, 0, r2, hr_, rfl, (H.pick [] (by decide) rfl)⟩⟩
 ·replace hM := M.e_f hM c7z
  simp only [decide_eq_true_eq, decide_eq_false_iff_not, beq_iff_eq, bne_iff_ne, beq_eq_false_iff_ne, bne_eq_false_iff_eq, ne_eq, Decidable.not_not] at c7z
  refine W.seq ?_
  refine W.region rfl ?_
  refine s_val (x_mv (v := v_walk) rfl) ?_
  have hl8z := (hs_walk).len_le
  refine s_val (x_lenS T88.und rfl hs_walk) ?_
  obtain ⟨r10z, hx9z, hM⟩ := M.e_bind hM
  refine s_call cf68 [I (walk.length : Int), I 1, I 60] rfl (level_in_ok (walk.length : Int) 1 60 hx9z _ (St.give (T := [cBlk b_2 (List.flatten [[I n_Marks, v_n_Lines], encF (α := Int) (List.replicate 169 0), encF (α := Leg) (List.replicate 169 default)]) 120, cBlk b_1 [I n_Marks, v_n_Lines] 25]) H rfl)) ?_
  rintro vq w11z ⟨r3, hr12z, hvq, H2_⟩
  subst hr12z
  subst vq
  try dsimp only at hM
  replace H : St w w11z [cBlk b_2 (List.flatten [[I n_Marks, v_n_Lines], encF (α := Int) (List.replicate 169 0), encF (α := Leg) (List.replicate 169 default)]) 120, cBlk b_1 [I n_Marks, v_n_Lines] 25] R := H.back H2_ rfl
  clear H2_
  refine s_val (x_not (b := r3) rfl) ?_
  refine s_val (x_as (v := B (!r3)) rfl) ?_
  refine s_nil ?_
  refine W.cond (!r3) rfl (fun c13z => ?_) (fun c13z => ?_)
  ·replace hM := M.e_t hM c13z
   refine W.seq ?_
   refine W.region rfl ?_
   refine s_val (x_as (v := I 0) rfl) ?_
   refine s_val (x_as (v := I 0) rfl) ?_
   refine s_val (x_as (v := I 0) rfl) ?_
   refine s_val (x_as (v := I 3) rfl) ?_
   refine s_nil ?_
   refine W.ret ?_
   have hr_ := M.e_pure hM
   exact ⟨_, resE_tmp4 rfl, ⟨0, 0, 0, 3, hr_, rfl, (H.pick [] (by decide) rfl)⟩⟩
  ·replace hM := M.e_f hM c13z
   refine W.seq ?_
   refine W.region rfl ?_
   refine s_val (x_mv (v := v_walk) rfl) ?_
   refine s_val (x_mf (fs := []) (cs := [.pointer (some ⟨b_1, 0, none⟩)]) rfl rfl) ?_
   obtain ⟨r15z, hx14z, hM⟩ := M.e_bind hM
   refine s_call cf81 [v_walk, .func (.func 82) #[] #[.pointer (some ⟨b_1, 0, none⟩)]] rfl (level_every_level_Leg_ok walk (fun xqz => m_level_Rises_1 xqz n_Marks n_Lines) (hC_walk.app _) hs_walk ⟨82, [.pointer (some ⟨b_1, 0, none⟩)], rfl, cf82, fun wqz Lqz Cqz vqz xqz bqz hsqz hCqz hAqz hpqz => by obtain rfl := Leg_arg hAqz; exact (level_Rises_1_ok xqz n_Marks n_Lines (Reads.app (hC_n_Lines.app _) _) hs_n_Lines (Has.app (Has.here (k := 1) rfl) _) hpqz wqz (St.refl hsqz)).mono fun vqz wqz ⟨yqz, hrqz, hvqz, Hqz⟩ => by subst hrqz; exact ⟨hvqz, Hqz⟩⟩ hx14z _ (St.give (T := [cBlk b_2 (List.flatten [[I n_Marks, v_n_Lines], encF (α := Int) (List.replicate 169 0), encF (α := Leg) (List.replicate 169 default)]) 120, cBlk b_1 [I n_Marks, v_n_Lines] 25]) H rfl)) ?_
   rintro vq w16z ⟨r4, hr17z, hvq, H2_⟩
   subst hr17z
   subst vq
   try dsimp only at hM
   replace H : St w w16z [cBlk b_2 (List.flatten [[I n_Marks, v_n_Lines], encF (α := Int) (List.replicate 169 0), encF (α := Leg) (List.replicate 169 default)]) 120, cBlk b_1 [I n_Marks, v_n_Lines] 25] R := H.back H2_ rfl
   clear H2_
   refine s_val (x_not (b := r4) rfl) ?_
   refine s_val (x_as (v := B (!r4)) rfl) ?_
   refine s_nil ?_
   refine W.cond (!r4) rfl (fun c18z => ?_) (fun c18z => ?_)
   ·replace hM := M.e_t hM c18z
    refine W.seq ?_
    refine W.region rfl ?_
    refine s_val (x_as (v := I 0) rfl) ?_
    refine s_val (x_as (v := I 0) rfl) ?_
    refine s_val (x_as (v := I 0) rfl) ?_
    refine s_val (x_as (v := I 2) rfl) ?_
    refine s_nil ?_
    refine W.ret ?_
    have hr_ := M.e_pure hM
    exact ⟨_, resE_tmp4 rfl, ⟨0, 0, 0, 2, hr_, rfl, (H.pick [] (by decide) rfl)⟩⟩
   ·replace hM := M.e_f hM c18z
    refine W.skip ?_
    refine W.seq ?_
    refine W.region rfl ?_
    refine s_val (x_mv (v := .pointer (some ⟨b_2, 0, none⟩)) rfl) ?_
    refine s_val (x_mv (v := v_walk) rfl) ?_
    obtain ⟨sd19z, hM⟩ := M.e_grd hM
    simp only [Bool.and_eq_true, decide_eq_true_eq] at sd19z
    refine s_val (x_ix (a := v_walk) (b := I 0) (v := vat v_walk 2 (Int.toNat 0)) rfl rfl (Sl.ix (α := Leg) T88.und T88.size hs_walk (by omega) (by omega))) ?_
    refine s_val (x_ld (p := vat v_walk 2 (Int.toNat 0)) (v := .agg #[I ((walk.getD 0 default).line), B ((walk.getD 0 default).back)]) rfl (ld_ag Ag91 Sz91 (At.mono (Leg_atA hs_walk (i := 0) (by omega) (by omega)) (hC_walk.at H)))) ?_
    obtain ⟨r21z, hx20z, hM⟩ := M.e_bind hM
    refine s_call cf83 [.pointer (some ⟨b_2, 0, none⟩), .agg #[I ((walk.getD 0 default).line), B ((walk.getD 0 default).back)]] rfl (level_survey_start_ok n_Marks n_Lines (walk.getD 0 default) (hC_n_Lines.app _) hs_n_Lines (Fld.here (k := 0) rfl rfl) hx20z _ (St.give (T := [cBlk b_2 (List.flatten [[I n_Marks, v_n_Lines], encF (α := Int) (List.replicate 169 0), encF (α := Leg) (List.replicate 169 default)]) 120, cBlk b_1 [I n_Marks, v_n_Lines] 25]) H rfl)) ?_
    rintro vq w22z ⟨r5, hr23z, hvq, H2_⟩
    subst hr23z
    subst vq
    try dsimp only at hM
    replace H : St w w22z [cBlk b_2 (List.flatten [[I n_Marks, v_n_Lines], encF (α := Int) (List.replicate 169 0), encF (α := Leg) (List.replicate 169 default)]) 120, cBlk b_1 [I n_Marks, v_n_Lines] 25] R := H.back H2_ rfl
    clear H2_
    refine s_val (x_as (v := I r5) rfl) ?_
    refine s_nil ?_
    refine W.seq ?_
    refine W.region rfl ?_
    refine s_val (x_mv (v := I r5) rfl) ?_
    refine s_val (x_as (v := I r5) rfl) ?_
    refine s_nil ?_
    refine W.seq ?_
    refine W.seq ?_
    refine W.region rfl ?_
    refine s_val (x_mv (v := v_walk) rfl) ?_
    have hl24z := (hs_walk).len_le
    refine s_val (x_lenS T88.und rfl hs_walk) ?_
    refine s_val (x_mv (v := I 0) rfl) ?_
    refine s_nil ?_
    refine W.block ?_
    obtain ⟨ex25z, hi26z, hk27z⟩ := M.e_bind hM
    obtain ⟨m0_, hi26z⟩ := M.e_iter hi26z
    refine W.loop (fun m σ W => ∃ (s : Int) (rise : Int) (s2 : Nat) (ρ : Env), σ = upds ρ [(4, I r5), (5, I s), (6, I rise), (8, .pointer (some ⟨b_2, 0, none⟩)), (36, v_walk), (37, I (walk.length : Int)), (38, I (s2 : Int))] /\ M.iterN (m_level_Rises_b0 n_Marks n_Lines walk) m (s, rise, s2) = some ex25z /\ St w W [cBlk b_2 (List.flatten [[I n_Marks, v_n_Lines], encF (α := Int) (List.replicate 169 0), encF (α := Leg) (List.replicate 169 default)]) 120, cBlk b_1 [I n_Marks, v_n_Lines] 25] R) ?_ ?_
    ·exact ⟨_, r5, 0, 0, _, upds_of _ _ ⟨rfl, rfl, rfl, rfl, rfl, rfl, rfl, trivial⟩, hi26z, H⟩
    ·rintro m30z σ w28z ⟨s, rise, s2, ρ, rfl, hI29z, H⟩
     obtain ⟨m31z, lt32z, x33z, hM, hN34z⟩ := M.e_iterN hI29z
     simp only [m_level_Rises_b0] at hM
     clear hI29z
     refine W.seq ?_
     refine W.region rfl ?_
     refine s_val (x_cmp (kd := .i64) (a := (s2 : Int)) (b := (walk.length : Int)) (r := decide ((s2 : Int) < (walk.length : Int))) rfl rfl rfl) ?_
     refine s_nil ?_
     refine W.seq ?_
     refine W.cond (decide ((s2 : Int) < (walk.length : Int))) rfl (fun c35z => ?_) (fun c35z => ?_)
     ·replace hM := M.e_t hM c35z
      simp only [decide_eq_true_eq, decide_eq_false_iff_not, beq_iff_eq, bne_iff_ne, beq_eq_false_iff_ne, bne_eq_false_iff_eq, ne_eq, Decidable.not_not] at c35z
      refine W.skip ?_
      refine W.seq ?_
      refine W.block ?_
      refine W.seq ?_
      refine W.region rfl ?_
      obtain ⟨sd36z, hM⟩ := M.e_grd hM
      simp only [Bool.and_eq_true, decide_eq_true_eq] at sd36z
      refine s_val (x_ix (a := v_walk) (b := I (s2 : Int)) (v := vat v_walk 2 (Int.toNat (s2 : Int))) rfl rfl (Sl.ix (α := Leg) T88.und T88.size hs_walk (by omega) (by omega))) ?_
      refine s_val (x_ld (p := vat v_walk 2 (Int.toNat (s2 : Int))) (v := .agg #[I ((walk.getD s2 default).line), B ((walk.getD s2 default).back)]) rfl (ld_ag Ag91 Sz91 (At.mono (Leg_atA hs_walk (i := (s2 : Int)) (by omega) (by omega)) (hC_walk.at H)))) ?_
      refine t_alloc (cs := [I 0, B false]) H Al91 rfl ?_
      intro b_3 w37z H
      refine t_st (k := 0) (b := b_3) (off := 0) (cs := [I 0, B false]) (vs := [I ((walk.getD s2 default).line), B ((walk.getD s2 default).back)]) (cs' := [I ((walk.getD s2 default).line), B ((walk.getD s2 default).back)]) (v := .agg #[I ((walk.getD s2 default).line), B ((walk.getD s2 default).back)]) (L' := [cBlk b_3 [I ((walk.getD s2 default).line), B ((walk.getD s2 default).back)] 91, cBlk b_2 (List.flatten [[I n_Marks, v_n_Lines], encF (α := Int) (List.replicate 169 0), encF (α := Leg) (List.replicate 169 default)]) 120, cBlk b_1 [I n_Marks, v_n_Lines] 25]) H rfl rfl rfl Sz91 rfl rfl rfl rfl rfl rfl ?_
      intro w38z H
      refine s_nil ?_
      refine W.seq ?_
      refine W.seq ?_
      refine W.region rfl ?_
      refine s_val (x_mv (v := .pointer (some ⟨b_2, 0, none⟩)) rfl) ?_
      refine s_val (x_ld (p := .pointer (some ⟨b_3, 0, none⟩)) (v := .agg #[I ((walk.getD s2 default).line), B ((walk.getD s2 default).back)]) rfl (ldb_ag (ds := [I ((walk.getD s2 default).line), B ((walk.getD s2 default).back)]) Ag91 Sz91 (H.blk (k := 0) rfl) rfl rfl)) ?_
      obtain ⟨r40z, hx39z, hM⟩ := M.e_bind hM
      refine s_call cf83 [.pointer (some ⟨b_2, 0, none⟩), .agg #[I ((walk.getD s2 default).line), B ((walk.getD s2 default).back)]] rfl (level_survey_start_ok n_Marks n_Lines (walk.getD s2 default) (hC_n_Lines.app _) hs_n_Lines (Fld.here (k := 1) rfl rfl) hx39z _ (St.give (T := [cBlk b_3 [I ((walk.getD s2 default).line), B ((walk.getD s2 default).back)] 91, cBlk b_2 (List.flatten [[I n_Marks, v_n_Lines], encF (α := Int) (List.replicate 169 0), encF (α := Leg) (List.replicate 169 default)]) 120, cBlk b_1 [I n_Marks, v_n_Lines] 25]) H rfl)) ?_
      rintro vq w41z ⟨r6, hr42z, hvq, H2_⟩
      subst hr42z
      subst vq
      try dsimp only at hM
      replace H : St w w41z [cBlk b_3 [I ((walk.getD s2 default).line), B ((walk.getD s2 default).back)] 91, cBlk b_2 (List.flatten [[I n_Marks, v_n_Lines], encF (α := Int) (List.replicate 169 0), encF (α := Leg) (List.replicate 169 default)]) 120, cBlk b_1 [I n_Marks, v_n_Lines] 25] R := H.back H2_ rfl
      clear H2_
      refine s_val (x_mv (v := I s) rfl) ?_
      refine s_val (x_cmp (kd := .i64) (a := r6) (b := s) (r := r6 != s) rfl rfl rfl) ?_
      refine s_nil ?_
      refine W.cond (r6 != s) rfl (fun c43z => ?_) (fun c43z => ?_)
      ·replace hM := M.e_t hM c43z
       simp only [decide_eq_true_eq, decide_eq_false_iff_not, beq_iff_eq, bne_iff_ne, beq_eq_false_iff_ne, bne_eq_false_iff_eq, ne_eq, Decidable.not_not] at c43z
       refine W.seq ?_
       refine W.region rfl ?_
       refine s_val (x_as (v := I 0) rfl) ?_
       refine s_val (x_as (v := I 0) rfl) ?_
       refine s_val (x_as (v := I 0) rfl) ?_
       refine s_val (x_as (v := I 9) rfl) ?_
       refine s_nil ?_
       refine W.ret ?_
       have hX44z := M.e_inr hM hN34z
       subst hX44z
       replace hM := hk27z
       try dsimp only at hM
       have hr_ := M.e_pure hM
       exact ⟨_, resE_tmp4 rfl, ⟨0, 0, 0, 9, hr_, rfl, (H.pick [] (by decide) rfl)⟩⟩
      ·replace hM := M.e_f hM c43z
       simp only [decide_eq_true_eq, decide_eq_false_iff_not, beq_iff_eq, bne_iff_ne, beq_eq_false_iff_ne, bne_eq_false_iff_eq, ne_eq, Decidable.not_not] at c43z
       refine W.skip ?_
       refine W.seq ?_
       refine W.region rfl ?_
       refine s_val (x_mv (v := .pointer (some ⟨b_2, 0, none⟩)) rfl) ?_
       refine s_val (x_ld (p := .pointer (some ⟨b_3, 0, none⟩)) (v := .agg #[I ((walk.getD s2 default).line), B ((walk.getD s2 default).back)]) rfl (ldb_ag (ds := [I ((walk.getD s2 default).line), B ((walk.getD s2 default).back)]) Ag91 Sz91 (H.blk (k := 0) rfl) rfl rfl)) ?_
       obtain ⟨r46z, hx45z, hM⟩ := M.e_bind hM
       refine s_call cf84 [.pointer (some ⟨b_2, 0, none⟩), .agg #[I ((walk.getD s2 default).line), B ((walk.getD s2 default).back)]] rfl (level_survey_goal_ok n_Marks n_Lines (walk.getD s2 default) (hC_n_Lines.app _) hs_n_Lines (Fld.here (k := 1) rfl rfl) hx45z _ (St.give (T := [cBlk b_3 [I ((walk.getD s2 default).line), B ((walk.getD s2 default).back)] 91, cBlk b_2 (List.flatten [[I n_Marks, v_n_Lines], encF (α := Int) (List.replicate 169 0), encF (α := Leg) (List.replicate 169 default)]) 120, cBlk b_1 [I n_Marks, v_n_Lines] 25]) H rfl)) ?_
       rintro vq w47z ⟨r7, hr48z, hvq, H2_⟩
       subst hr48z
       subst vq
       try dsimp only at hM
       replace H : St w w47z [cBlk b_3 [I ((walk.getD s2 default).line), B ((walk.getD s2 default).back)] 91, cBlk b_2 (List.flatten [[I n_Marks, v_n_Lines], encF (α := Int) (List.replicate 169 0), encF (α := Leg) (List.replicate 169 default)]) 120, cBlk b_1 [I n_Marks, v_n_Lines] 25] R := H.back H2_ rfl
       clear H2_
       refine s_val (x_as (v := I r7) rfl) ?_
       refine s_nil ?_
       refine W.region rfl ?_
       refine s_val (x_mv (v := I rise) rfl) ?_
       refine s_val (x_mv (v := .pointer (some ⟨b_2, 0, none⟩)) rfl) ?_
       refine s_val (x_ld (p := .pointer (some ⟨b_3, 0, none⟩)) (v := .agg #[I ((walk.getD s2 default).line), B ((walk.getD s2 default).back)]) rfl (ldb_ag (ds := [I ((walk.getD s2 default).line), B ((walk.getD s2 default).back)]) Ag91 Sz91 (H.blk (k := 0) rfl) rfl rfl)) ?_
       obtain ⟨r50z, hx49z, hM⟩ := M.e_bind hM
       refine s_call cf85 [.pointer (some ⟨b_2, 0, none⟩), .agg #[I ((walk.getD s2 default).line), B ((walk.getD s2 default).back)]] rfl (level_survey_rise_ok n_Marks n_Lines (walk.getD s2 default) (hC_n_Lines.app _) hs_n_Lines (Fld.here (k := 1) rfl rfl) hx49z _ (St.give (T := [cBlk b_3 [I ((walk.getD s2 default).line), B ((walk.getD s2 default).back)] 91, cBlk b_2 (List.flatten [[I n_Marks, v_n_Lines], encF (α := Int) (List.replicate 169 0), encF (α := Leg) (List.replicate 169 default)]) 120, cBlk b_1 [I n_Marks, v_n_Lines] 25]) H rfl)) ?_
       rintro vq w51z ⟨r8, hr52z, hvq, H2_⟩
       subst hr52z
       subst vq
       try dsimp only at hM
       replace H : St w w51z [cBlk b_3 [I ((walk.getD s2 default).line), B ((walk.getD s2 default).back)] 91, cBlk b_2 (List.flatten [[I n_Marks, v_n_Lines], encF (α := Int) (List.replicate 169 0), encF (α := Leg) (List.replicate 169 default)]) 120, cBlk b_1 [I n_Marks, v_n_Lines] 25] R := H.back H2_ rfl
       clear H2_
       obtain ⟨sd53z, hM⟩ := M.e_grd hM
       simp only [Bool.and_eq_true, decide_eq_true_eq] at sd53z
       refine s_val (x_ari (a := rise) (b := r8) (r := rise + r8) rfl rfl rfl (by omega)) ?_
       refine s_val (x_as (v := I (rise + r8)) rfl) ?_
       refine s_nil ?_
       refine W.region rfl ?_
       refine s_val (x_ari (a := (s2 : Int)) (b := 1) (r := (s2 : Int) + 1) rfl rfl rfl (by omega)) ?_
       refine s_val (x_mv (v := I ((s2 : Int) + 1)) rfl) ?_
       refine s_nil ?_
       exact ⟨m31z, lt32z, r7, rise + r8, s2 + 1, _, upds_of _ _ ⟨rfl, rfl, rfl, rfl, rfl, rfl, rfl, trivial⟩, M.e_inl hM hN34z, (H.pick [1, 2] (by decide) rfl)⟩
     ·replace hM := M.e_f hM c35z
      simp only [decide_eq_true_eq, decide_eq_false_iff_not, beq_iff_eq, bne_iff_ne, beq_eq_false_iff_ne, bne_eq_false_iff_eq, ne_eq, Decidable.not_not] at c35z
      refine W.exit ?_
      have hX54z := M.e_inr hM hN34z
      subst hX54z
      replace hM := hk27z
      try dsimp only at hM
      refine W.seq ?_
      refine W.region rfl ?_
      refine s_val (x_mv (v := I r5) rfl) ?_
      refine s_val (x_mv (v := I s) rfl) ?_
      refine s_val (x_mv (v := I rise) rfl) ?_
      refine s_val (x_as (v := I r5) rfl) ?_
      refine s_val (x_as (v := I s) rfl) ?_
      refine s_val (x_as (v := I rise) rfl) ?_
      refine s_val (x_as (v := I 0) rfl) ?_
      refine s_nil ?_
      refine W.ret ?_
      have hr_ := M.e_pure hM
      exact ⟨_, resE_tmp4 rfl, ⟨r5, s, rise, 0, hr_, rfl, (H.pick [] (by decide) rfl)⟩⟩

def m_level_Agrees (n_Marks : Int) (n_Lines : List Line) : M (Bool × Int) :=
  M.bind (m_level_opened n_Marks n_Lines) fun x_ => match x_ with
  | (.inl r1) => (
  bif r1 != 0 then (
  M.pure (false, r1))
  else (
  M.fail))
  | (.inr (r00, r02, r03, r12)) => (
  bif r12 != 0 then (
  M.fail)
  else (
  M.bind (m_level_survey_open r00 n_Lines r02 r03) fun r2 =>
  M.pure ((!r2), 0)))
theorem level_Agrees_ok {R : List Chunk} {C_n_Lines : Cells} {v_n_Lines : Value} (n_Marks : Int) (n_Lines : List Line) (hC_n_Lines : Reads R C_n_Lines) (hs_n_Lines : Sl C_n_Lines v_n_Lines n_Lines) {r : (Bool × Int)} (hM : (m_level_Agrees n_Marks n_Lines).Ends r) (w : World) (H : St w w [] R) : Ret Try.prog 23 #[.agg #[I n_Marks, v_n_Lines]] w fun v w' => ∃ (y0 : Bool) (y1 : Int), (y0, y1) = r /\ v = .tuple #[B y0, I y1] /\ St w w' [] R := by
 refine ret_of_W Try.func23 rfl rfl rfl ?_
 refine W.seq ?_
 refine W.region rfl ?_
 refine t_box (v := .agg #[I n_Marks, v_n_Lines]) (cs := [I n_Marks, v_n_Lines]) H rfl rfl ?_
 intro b_1 w1z H
 refine s_val (x_as (v := B false) rfl) ?_
 refine s_val (x_as (v := I 0) rfl) ?_
 refine s_nil ?_
 refine W.seq ?_
 refine W.region rfl ?_
 refine s_val (x_ld (p := .pointer (some ⟨b_1, 0, none⟩)) (v := .agg #[I n_Marks, v_n_Lines]) rfl (ldb_ag (ds := [I n_Marks, v_n_Lines]) Ag25 Sz25 (H.blk (k := 0) rfl) rfl rfl)) ?_
 obtain ⟨r3z, hx2z, hM⟩ := M.e_bind hM
 refine s_call cf59 [.agg #[I n_Marks, v_n_Lines]] rfl (level_opened_ok n_Marks n_Lines (hC_n_Lines.app _) hs_n_Lines hx2z _ (St.give (T := [cBlk b_1 [I n_Marks, v_n_Lines] 25]) H rfl)) ?_
 rintro vq w4z (⟨r1, hr5z, hvq, H2_⟩ | ⟨r00, r02, r03, r12, nb0_2, hr6z, hvq, H2_, hf7z, hf8z⟩)
 ·subst hr5z
  subst vq
  try dsimp only at hM
  replace H : St w w4z [cBlk b_1 [I n_Marks, v_n_Lines] 25] R := H.back H2_ rfl
  clear H2_
  refine s_val (x_mv (v := .tuple #[.pointer none, I r1]) rfl) ?_
  refine s_val (x_ext (vs := [.pointer none, I r1]) (v := .pointer none) rfl rfl) ?_
  refine s_val (x_ext (vs := [.pointer none, I r1]) (v := I r1) rfl rfl) ?_
  refine s_val (x_as (v := .pointer none) rfl) ?_
  refine s_val (x_as (v := I r1) rfl) ?_
  refine s_nil ?_
  refine W.seq ?_
  refine W.seq ?_
  refine W.region rfl ?_
  refine s_val (x_mv (v := I r1) rfl) ?_
  refine s_val (x_cmp (kd := .i64) (a := r1) (b := 0) (r := r1 != 0) rfl rfl rfl) ?_
  refine s_nil ?_
  refine W.cond (r1 != 0) rfl (fun c9z => ?_) (fun c9z => ?_)
  ·replace hM := M.e_t hM c9z
   simp only [decide_eq_true_eq, decide_eq_false_iff_not, beq_iff_eq, bne_iff_ne, beq_eq_false_iff_ne, bne_eq_false_iff_eq, ne_eq, Decidable.not_not] at c9z
   refine W.seq ?_
   refine W.region rfl ?_
   refine s_val (x_mv (v := I r1) rfl) ?_
   refine s_val (x_as (v := B false) rfl) ?_
   refine s_val (x_as (v := I r1) rfl) ?_
   refine s_nil ?_
   refine W.ret ?_
   have hr_ := M.e_pure hM
   exact ⟨_, resE_tmp2 rfl, ⟨false, r1, hr_, rfl, (H.pick [] (by decide) rfl)⟩⟩
  ·replace hM := M.e_f hM c9z
   exact (M.e_fail hM).elim
 ·subst hr6z
  subst vq
  try dsimp only at hM
  replace H : St w w4z [cBlk nb0_2 (List.flatten [[I r00, v_n_Lines], encF (α := Int) r02, encF (α := Leg) r03]) 120, cBlk b_1 [I n_Marks, v_n_Lines] 25] R := H.back H2_ rfl
  clear H2_
  refine s_val (x_mv (v := .tuple #[.pointer (some ⟨nb0_2, 0, none⟩), I r12]) rfl) ?_
  refine s_val (x_ext (vs := [.pointer (some ⟨nb0_2, 0, none⟩), I r12]) (v := .pointer (some ⟨nb0_2, 0, none⟩)) rfl rfl) ?_
  refine s_val (x_ext (vs := [.pointer (some ⟨nb0_2, 0, none⟩), I r12]) (v := I r12) rfl rfl) ?_
  refine s_val (x_as (v := .pointer (some ⟨nb0_2, 0, none⟩)) rfl) ?_
  refine s_val (x_as (v := I r12) rfl) ?_
  refine s_nil ?_
  refine W.seq ?_
  refine W.seq ?_
  refine W.region rfl ?_
  refine s_val (x_mv (v := I r12) rfl) ?_
  refine s_val (x_cmp (kd := .i64) (a := r12) (b := 0) (r := r12 != 0) rfl rfl rfl) ?_
  refine s_nil ?_
  refine W.cond (r12 != 0) rfl (fun c10z => ?_) (fun c10z => ?_)
  ·replace hM := M.e_t hM c10z
   exact (M.e_fail hM).elim
  ·replace hM := M.e_f hM c10z
   simp only [decide_eq_true_eq, decide_eq_false_iff_not, beq_iff_eq, bne_iff_ne, beq_eq_false_iff_ne, bne_eq_false_iff_eq, ne_eq, Decidable.not_not] at c10z
   refine W.skip ?_
   refine W.seq ?_
   refine W.region rfl ?_
   refine s_val (x_mv (v := .pointer (some ⟨nb0_2, 0, none⟩)) rfl) ?_
   obtain ⟨r12z, hx11z, hM⟩ := M.e_bind hM
   refine s_call cf60 [.pointer (some ⟨nb0_2, 0, none⟩)] rfl (level_survey_open_ok r00 n_Lines r02 r03 (hC_n_Lines.app _) hs_n_Lines hf7z hf8z (Has.here (k := 0) rfl) hx11z _ (St.give (T := [cBlk nb0_2 (List.flatten [[I r00, v_n_Lines], encF (α := Int) r02, encF (α := Leg) r03]) 120, cBlk b_1 [I n_Marks, v_n_Lines] 25]) H rfl)) ?_
   rintro vq w13z ⟨r2, hr14z, hvq, H2_⟩
   subst hr14z
   subst vq
   try dsimp only at hM
   replace H : St w w13z [cBlk nb0_2 (List.flatten [[I r00, v_n_Lines], encF (α := Int) r02, encF (α := Leg) r03]) 120, cBlk b_1 [I n_Marks, v_n_Lines] 25] R := H.back H2_ rfl
   clear H2_
   refine s_val (x_not (b := r2) rfl) ?_
   refine s_val (x_as (v := B (!r2)) rfl) ?_
   refine s_val (x_as (v := I 0) rfl) ?_
   refine s_nil ?_
   refine W.ret ?_
   have hr_ := M.e_pure hM
   exact ⟨_, resE_tmp2 rfl, ⟨(!r2), 0, hr_, rfl, (H.pick [] (by decide) rfl)⟩⟩

end Go.Proofs.Ytclhljenjphofaa
end
namespace Go.Nm
open Go
theorem x_eqnilA {P : Program} {w : World} {σ : Env} {d : Nat} {ty : TypeId} {pos : String} {af : Array Edge} {g : Option (Nat × Bool)} {t e yt : TypeId} {x y : Operand} {a : Option Addr} {n c : Nat} (ht : P.underlying t = some (.slice e)) (hx : ev σ x = .slice a n c) (hy : ev σ y = .slice none 0 0) :
    (execOp (ev σ) ⟨some d, .binOp .eql t x y yt, ty, pos, af, g⟩).run P w = .ok (.value (.bool a.isNone)) w := by
  simp [execOp, hx, hy, eqGuard, binOp, run_equal_slice_nil w t e a n c ht]
end Go.Nm
namespace Go.Proofs.Ytclhljenjphofaa
open Go Go.Nm
theorem cfr93 : CF Try.prog 93 := ⟨_, Try.func93, rfl, by decide +kernel⟩
set_option maxRecDepth 100000 in
theorem clone_any {R : List Chunk} {C_s : Cells} {v_s : Value} (s : List Line) (hC_s : Reads R C_s) (hs_s : Sl C_s v_s s) (hlen : s.length * 40 <= 140737488355328) (w : World) (hsep : Sep w R) :
    Ret Try.prog 93 #[v_s] w fun v w' => St w w' [cOwn (α := Line) 34 v s] R := by
 have H : St w w [] R := St.refl hsep
 obtain ⟨a, c, hv, hc, hm, hk⟩ := hs_s.ex
 refine ret_of_W Try.func93 rfl rfl rfl ?_
 refine W.seq ?_
 refine W.region rfl ?_
 refine s_val (x_as (v := .slice none 0 0) rfl) ?_
 refine s_nil ?_
 refine W.seq ?_
 refine W.seq ?_
 refine W.region rfl ?_
 refine s_val (x_mv (v := v_s) rfl) ?_
 refine s_val (v := B a.isNone) (x_eqnilA (a := a) (n := s.length) (c := c) Try.underlying23 hv rfl) ?_
 refine s_nil ?_
 refine W.cond a.isNone rfl (fun h => ?_) (fun h => ?_)
 ·have e : s = [] := by
   cases s with
   | nil => rfl
   | cons x s =>
    obtain ⟨b, o, cs, ha, _⟩ := hk 0 x rfl
    subst ha
    cases h
  subst e
  refine W.seq ?_
  refine W.region rfl ?_
  refine s_val (x_as (v := .slice none 0 0) rfl) ?_
  refine s_nil ?_
  refine W.ret ?_
  exact ⟨_, resE_tmp rfl, H.nilOwn (α := Line) 34⟩
 ·refine W.skip ?_
  refine W.seq ?_
  refine W.region rfl ?_
  refine t_bs0 (α := Line) T23 H ?_
  intro v3z w4z H
  refine s_val (x_mv (v := v_s) rfl) ?_
  refine t_app (α := Line) (k := 0) (l := []) (l2 := s) (l' := s) (vy := v_s) T23 rfl H rfl rfl rfl hs_s (hC_s.at H) (List.nil_append _) (by simp only [List.length_nil]; omega) ?_
  intro v6z w7z H
  refine s_val (x_as (v := v6z) rfl) ?_
  refine s_nil ?_
  refine W.ret ?_
  exact ⟨_, resE_tmp rfl, H⟩
end Go.Proofs.Ytclhljenjphofaa
section
set_option maxRecDepth 100000
set_option maxHeartbeats 16000000
namespace Go.Proofs.Ytclhljenjphofaa
open Go Go.Nm
def m_level_survey_days_b0 (w__Net_Lines : List Line) : (List Int) -> Leg -> M ((List Int) ⊕ Unit) := fun mp x =>
  M.grd (decide ((0 : Int) <= x.line) && decide (x.line < (w__Net_Lines.length : Int))) <|
  M.grd (decide ((-9223372036854775808 : Int) <= (((w__Net_Lines.getD (Int.toNat x.line) default).day) + 1)) && decide ((((w__Net_Lines.getD (Int.toNat x.line) default).day) + 1) <= (9223372036854775807 : Int))) <|
  M.pure (.inl (insK mp (((w__Net_Lines.getD (Int.toNat x.line) default).day) + 1)))
def m_level_survey_days (w__Net_Marks : Int) (w__Net_Lines : List Line) (mark : Int) : M (List Int) :=
  M.bind (m_level_survey_legs w__Net_Marks w__Net_Lines mark) fun r10 =>
  M.bind (m_level_survey_legs_1 (M.yl (m_level_survey_days_b0 w__Net_Lines)) (.inl (insK ([] : List Int) 1)) w__Net_Marks w__Net_Lines r10) fun x_ => match x_ with
  | .inl mp => (
  M.grd (decide (∀ k_ ∈ (mp.erase 40001), (-9223372036854775808 : Int) <= k_ /\ k_ <= (9223372036854775807 : Int)) && decide ((mp.erase 40001).length <= 1000000)) <|
  M.pure (isort (mp.erase 40001)))
  | .inr _ => M.fail
theorem level_survey_days_ok {R : List Chunk} {b_w_ : Nat} {C_w__Net_Lines : Cells} {v_w__Net_Lines : Value} (w__Net_Marks : Int) (w__Net_Lines : List Line) (mark : Int) (hC_w__Net_Lines : Reads R C_w__Net_Lines) (hs_w__Net_Lines : Sl C_w__Net_Lines v_w__Net_Lines w__Net_Lines) (h_b_w_ : Fld R b_w_ [I w__Net_Marks, v_w__Net_Lines]) {r : (List Int)} (hM : (m_level_survey_days w__Net_Marks w__Net_Lines mark).Ends r) (w : World) (H : St w w [] R) : Ret Try.prog 61 #[.pointer (some ⟨b_w_, 0, none⟩), I mark] w fun v w' => ∃ (y0 : List Int) (u0 : Value), y0 = r /\ v = u0 /\ St w w' [cOwn (α := Int) 3 u0 y0] R := by
 refine ret_of_WD Try.func61 rfl rfl rfl ?_
 replace H : St w w [cMk ([])] R := H.mk0
 have hl_w__Net_Lines := hs_w__Net_Lines.len_le
 unfold m_level_survey_days at hM
 refine WD.seq ?_
 refine WD.of ?_
 refine W.region rfl ?_
 refine t_box (v := .pointer (some ⟨b_w_, 0, none⟩)) (cs := [.pointer (some ⟨b_w_, 0, none⟩)]) H rfl rfl ?_
 intro b_1 w1z H
 refine s_val (x_as (v := .slice none 0 0) rfl) ?_
 refine s_nil ?_
 refine WD.seq ?_
 refine WD.of ?_
 refine W.region rfl ?_
 refine t_mkKs H ?_
 intro b_2 w2z H
 refine t_insK (i := 0) (ks := []) (k := 1) (L' := [cKs b_2 (insK ([] : List Int) 1), cBlk b_1 [.pointer (some ⟨b_w_, 0, none⟩)] 111, cMk ([])]) keyIntB Try.underlying151 H rfl rfl rfl rfl rfl ?_
 intro w3z H
 refine s_val (x_mv (v := .map (some b_2)) rfl) ?_
 refine t_alloc (cs := [.map none]) H Al151 rfl ?_
 intro b_3 w4z H
 refine t_st (k := 0) (b := b_3) (off := 0) (cs := [.map none]) (vs := [.map (some b_2)]) (cs' := [.map (some b_2)]) (v := .map (some b_2)) (L' := [cBlk b_3 [.map (some b_2)] 151, cKs b_2 (insK ([] : List Int) 1), cBlk b_1 [.pointer (some ⟨b_w_, 0, none⟩)] 111, cMk ([])]) H rfl rfl rfl Sz151 rfl rfl rfl rfl rfl rfl ?_
 intro w5z H
 refine s_nil ?_
 refine WD.seq ?_
 refine WD.seq ?_
 refine WD.of ?_
 refine W.region rfl ?_
 refine s_val (x_ld (p := .pointer (some ⟨b_1, 0, none⟩)) (v := .pointer (some ⟨b_w_, 0, none⟩)) rfl (ldb_sc Sc111 (H.blk (k := 2) rfl) rfl)) ?_
 refine s_val (x_mv (v := I mark) rfl) ?_
 obtain ⟨r7z, hx6z, hM⟩ := M.e_bind hM
 refine s_call cf89 [.pointer (some ⟨b_w_, 0, none⟩), I mark] rfl (level_survey_legs_ok w__Net_Marks w__Net_Lines mark (hC_w__Net_Lines.app _) hs_w__Net_Lines (h_b_w_.app _) hx6z _ (St.give (T := [cBlk b_3 [.map (some b_2)] 151, cKs b_2 (insK ([] : List Int) 1), cBlk b_1 [.pointer (some ⟨b_w_, 0, none⟩)] 111, cMk ([])]) H rfl)) ?_
 rintro vq w8z ⟨r10, nb0_4, nb1_5, hr9z, hvq, H2_⟩
 subst hr9z
 subst vq
 try dsimp only at hM
 replace H : St w w8z [cBlk nb0_4 [.pointer (some ⟨b_w_, 0, none⟩)] 111, cBlk nb1_5 [I r10] 3, cBlk b_3 [.map (some b_2)] 151, cKs b_2 (insK ([] : List Int) 1), cBlk b_1 [.pointer (some ⟨b_w_, 0, none⟩)] 111, cMk ([])] R := H.back H2_ rfl
 clear H2_
 refine s_nil ?_
 refine WD.block ?_
 obtain ⟨t10z, hx11z, hM⟩ := M.e_bind hM
 refine WD.range (L := [cKs b_2 (insK ([] : List Int) 1), cBlk nb0_4 [.pointer (some ⟨b_w_, 0, none⟩)] 111, cBlk nb1_5 [I r10] 3, cBlk b_3 [.map (some b_2)] 151, cBlk b_1 [.pointer (some ⟨b_w_, 0, none⟩)] 111]) [.pointer (some ⟨nb0_4, 0, none⟩), .pointer (some ⟨nb1_5, 0, none⟩)] (H.pick [5, 3, 0, 1, 2, 4] (by decide) rfl) rfl cf101 ?_
 intro l12z D13z r14z w15z hr16z H
 have hYC : YieldC Try.prog ([cMk (D13z :: ([])), cBlk nb0_4 [.pointer (some ⟨b_w_, 0, none⟩)] 111, cBlk nb1_5 [I r10] 3, cBlk b_3 [.map (some b_2)] 151, cBlk b_1 [.pointer (some ⟨b_w_, 0, none⟩)] 111] ++ R) arLeg (yJ l12z r14z (fun mp Ls_ => Ls_ = [cKs b_2 mp]) (fun (_ : Unit) _ => False) (fun _ => .ret)) (.func (.yield l12z) #[] #[]) (M.yl (m_level_survey_days_b0 w__Net_Lines)) := by
  refine YieldC.mk2 hr16z (fun mp Ls_ => Ls_ = [cKs b_2 mp]) (fun (_ : Unit) _ => False) (fun _ => .ret) (m_level_survey_days_b0 w__Net_Lines) (by rintro mp _ h_; obtain ⟨rfl⟩ := h_; rfl) (fun _ _ h_ => h_.elim) rfl (arLeg_len rfl) ?_
  intro C_ vs_ x hA_
  obtain rfl := hA_
  intro w R hR_ Ls_ s_ r hY_ hM H
  skip
  obtain ⟨mp, hs_eq_⟩ : ∃ y_, y_ = s_ := ⟨_, rfl⟩
  subst hs_eq_
  obtain ⟨rfl⟩ := hY_
  replace H : St w w [cKs b_2 mp, cMk (D13z :: ([])), cBlk nb0_4 [.pointer (some ⟨b_w_, 0, none⟩)] 111, cBlk nb1_5 [I r10] 3, cBlk b_3 [.map (some b_2)] 151, cBlk b_1 [.pointer (some ⟨b_w_, 0, none⟩)] 111] R := H
  refine W.region rfl ?_
  refine t_alloc (cs := [I 0, B false]) H Al91 rfl ?_
  intro b_6 w17z H
  refine t_st (k := 0) (b := b_6) (off := 0) (cs := [I 0, B false]) (vs := [I x.line, B x.back]) (cs' := [I x.line, B x.back]) (v := .agg #[I x.line, B x.back]) (L' := [cBlk b_6 [I x.line, B x.back] 91, cKs b_2 mp, cMk (D13z :: ([])), cBlk nb0_4 [.pointer (some ⟨b_w_, 0, none⟩)] 111, cBlk nb1_5 [I r10] 3, cBlk b_3 [.map (some b_2)] 151, cBlk b_1 [.pointer (some ⟨b_w_, 0, none⟩)] 111]) H rfl rfl rfl Sz91 rfl rfl rfl rfl rfl rfl ?_
  intro w18z H
  refine s_nil ?_
  refine ⟨rfl, [cBlk b_6 [I x.line, B x.back] 91], H.pick [0, 1, 2, 3, 4, 5, 6] (by decide) rfl, ?_⟩
  clear H hR_
  intro w R hR_ H
  replace hC_w__Net_Lines := hC_w__Net_Lines.sub hR_
  replace h_b_w_ := h_b_w_.sub hR_
  replace hM : (m_level_survey_days_b0 w__Net_Lines mp x).Ends r := hM
  simp only [m_level_survey_days_b0] at hM
  replace H : St w w [cBlk b_6 [I x.line, B x.back] 91, cKs b_2 mp, cMk (D13z :: ([])), cBlk nb0_4 [.pointer (some ⟨b_w_, 0, none⟩)] 111, cBlk nb1_5 [I r10] 3, cBlk b_3 [.map (some b_2)] 151, cBlk b_1 [.pointer (some ⟨b_w_, 0, none⟩)] 111] R := H
  refine W.block ?_
  refine W.draw (fun W => St w W [cBlk b_6 [I x.line, B x.back] 91, cMk (D13z :: ([])), cBlk nb0_4 [.pointer (some ⟨b_w_, 0, none⟩)] 111, cBlk nb1_5 [I r10] 3, cBlk b_3 [.map (some b_2)] 151, cBlk b_1 [.pointer (some ⟨b_w_, 0, none⟩)] 111] R) [(0, true), (1, true), (2, true), (3, true), (4, true), (5, true), (6, true), (7, true), (8, true), (9, true), (10, true), (11, true), (12, false)] mixed (by decide +kernel) rfl ?_
  intro w19z hx_
  replace H : St w w19z [cBlk b_6 [I x.line, B x.back] 91, cKs b_2 mp, cMk (D13z :: ([])), cBlk nb0_4 [.pointer (some ⟨b_w_, 0, none⟩)] 111, cBlk nb1_5 [I r10] 3, cBlk b_3 [.map (some b_2)] 151, cBlk b_1 [.pointer (some ⟨b_w_, 0, none⟩)] 111] R := H.ext hx_
  clear hx_
  refine ⟨(H.pick [0, 2, 3, 4, 5, 6] (by decide) rfl), ?_⟩
  refine d_q rfl (fun w' H => x_ld (p := .pointer (some ⟨b_3, 0, none⟩)) (v := .map (some b_2)) rfl (ldb_sc Sc151 (H.blk (k := 4) rfl) rfl)) ?_
  refine d_q rfl (fun w' H => x_ld (p := .pointer (some ⟨b_1, 0, none⟩)) (v := .pointer (some ⟨b_w_, 0, none⟩)) rfl (ldb_sc Sc111 (H.blk (k := 5) rfl) rfl)) ?_
  refine d_q rfl (fun w' H => x_nc (a := ⟨b_w_, 0, none⟩) rfl) ?_
  refine d_q rfl (fun w' H => x_fa (a := .pointer (some ⟨b_w_, 0, none⟩)) (v := .pointer (some ⟨b_w_, 0, none⟩)) rfl (fa_blk (o := 0) Fd120_0 Sz25)) ?_
  refine d_q rfl (fun w' H => x_fa (a := .pointer (some ⟨b_w_, 0, none⟩)) (v := .pointer (some ⟨b_w_, 1, none⟩)) rfl (fa_blk (o := 0) Fd25_1 Sz23)) ?_
  refine d_q rfl (fun w' H => x_ld (p := .pointer (some ⟨b_w_, 1, none⟩)) (v := v_w__Net_Lines) rfl (fld_sc (pre := [I w__Net_Marks, v_w__Net_Lines]) (i := 1) Sc23 (h_b_w_.at H) rfl)) ?_
  refine d_q rfl (fun w' H => x_fa (a := .pointer (some ⟨b_6, 0, none⟩)) (v := .pointer (some ⟨b_6, 0, none⟩)) rfl (fa_blk (o := 0) Fd91_0 Sz3)) ?_
  refine d_q rfl (fun w' H => x_ld (p := .pointer (some ⟨b_6, 0, none⟩)) (v := I x.line) rfl (ldb_sc Sc3 (H.blk (k := 0) rfl) rfl)) ?_
  obtain ⟨sd20z, hM⟩ := M.e_grd hM
  simp only [Bool.and_eq_true, decide_eq_true_eq] at sd20z
  refine d_q rfl (fun w' H => x_ix (a := v_w__Net_Lines) (b := I x.line) (v := vat v_w__Net_Lines 5 (Int.toNat x.line)) rfl rfl (Sl.ix (α := Line) T23.und T23.size hs_w__Net_Lines (by omega) (by omega))) ?_
  refine d_q rfl (fun w' H => x_fa (a := vat v_w__Net_Lines 5 (Int.toNat x.line)) (v := fat (vat v_w__Net_Lines 5 (Int.toNat x.line)) 2) rfl (fa_pl Fd34_2 Sz3 (Sl.pl (i := x.line) hs_w__Net_Lines (by omega) (by omega)))) ?_
  refine d_q rfl (fun w' H => x_ld (p := fat (vat v_w__Net_Lines 5 (Int.toNat x.line)) 2) (v := I ((w__Net_Lines.getD (Int.toNat x.line) default).day)) rfl (ld_sc Sc3 (At.mono (Line_at2 hs_w__Net_Lines (i := x.line) (by omega) (by omega)) (hC_w__Net_Lines.at H)))) ?_
  obtain ⟨sd21z, hM⟩ := M.e_grd hM
  simp only [Bool.and_eq_true, decide_eq_true_eq] at sd21z
  refine d_q rfl (fun w' H => x_ari (a := (w__Net_Lines.getD (Int.toNat x.line) default).day) (b := 1) (r := ((w__Net_Lines.getD (Int.toNat x.line) default).day) + 1) rfl rfl rfl (by omega)) ?_
  refine d_l rfl ?_
  refine t_putK (i := 1) (ks := mp) (k := ((w__Net_Lines.getD (Int.toNat x.line) default).day) + 1) (L' := [cBlk b_6 [I x.line, B x.back] 91, cKs b_2 (insK mp (((w__Net_Lines.getD (Int.toNat x.line) default).day) + 1)), cMk (D13z :: ([])), cBlk nb0_4 [.pointer (some ⟨b_w_, 0, none⟩)] 111, cBlk nb1_5 [I r10] 3, cBlk b_3 [.map (some b_2)] 151, cBlk b_1 [.pointer (some ⟨b_w_, 0, none⟩)] 111]) keyIntB Try.underlying151 H rfl rfl rfl rfl rfl ?_
  intro w22z H
  refine s_nil ⟨(H.pick [0, 2, 3, 4, 5, 6] (by decide) rfl), ?_⟩
  refine d_nil ?_
  exact ⟨insK mp (((w__Net_Lines.getD (Int.toNat x.line) default).day) + 1), [cKs b_2 (insK mp (((w__Net_Lines.getD (Int.toNat x.line) default).day) + 1))], (M.e_pure hM).symm, rfl, H.pick [1, 2, 3, 4, 5, 6] (by decide) rfl⟩
 replace H : St w w15z (cAll (cObj l12z (.loop r14z) :: [cKs b_2 (insK ([] : List Int) 1)]) :: [cMk (D13z :: ([])), cBlk nb0_4 [.pointer (some ⟨b_w_, 0, none⟩)] 111, cBlk nb1_5 [I r10] 3, cBlk b_3 [.map (some b_2)] 151, cBlk b_1 [.pointer (some ⟨b_w_, 0, none⟩)] 111]) R := St.bundleB (A := cObj l12z (.loop r14z) :: [cKs b_2 (insK ([] : List Int) 1)]) (T := [cMk (D13z :: ([])), cBlk nb0_4 [.pointer (some ⟨b_w_, 0, none⟩)] 111, cBlk nb1_5 [I r10] 3, cBlk b_3 [.map (some b_2)] 151, cBlk b_1 [.pointer (some ⟨b_w_, 0, none⟩)] 111]) rfl (H.pick [0, 2, 1, 3, 4, 5, 6] (by decide) rfl)
 refine (level_survey_legs_1_ok (M.yl (m_level_survey_days_b0 w__Net_Lines)) (.inl (insK ([] : List Int) 1)) w__Net_Marks w__Net_Lines r10 hYC ⟨_, rfl, rfl⟩ (hC_w__Net_Lines.app _) hs_w__Net_Lines (fun _ _ _ => Fld.cons (h_b_w_.app _) _) (Has.here (k := 1) rfl) (Has.here (k := 2) rfl) hx11z _ (St.give (A := [cAll (cObj l12z (.loop r14z) :: [cKs b_2 (insK ([] : List Int) 1)])]) (T := [cMk (D13z :: ([])), cBlk nb0_4 [.pointer (some ⟨b_w_, 0, none⟩)] 111, cBlk nb1_5 [I r10] 3, cBlk b_3 [.map (some b_2)] 151, cBlk b_1 [.pointer (some ⟨b_w_, 0, none⟩)] 111]) H rfl)).mono ?_
 rintro vq w23z ⟨t27z, Ls25z, hq28z, hvq, H2_, hY26z⟩
 subst hq28z
 replace H := H.back H2_ rfl
 clear H2_ hYC
 rcases t27z with mp | _
 ·try dsimp only at hM
  obtain ⟨_, rfl, rfl⟩ := hY26z
  refine ⟨_, [cKs b_2 mp, cBlk nb0_4 [.pointer (some ⟨b_w_, 0, none⟩)] 111, cBlk nb1_5 [I r10] 3, cBlk b_3 [.map (some b_2)] 151, cBlk b_1 [.pointer (some ⟨b_w_, 0, none⟩)] 111], H.unbundle.pick [0, 2, 1, 3, 4, 5, 6] (by decide) rfl, hr16z.nb, ?_⟩
  intro w24z H
  rw [hr16z.pd]
  replace H : St w w24z [cMk (D13z :: ([])), cKs b_2 mp, cBlk nb0_4 [.pointer (some ⟨b_w_, 0, none⟩)] 111, cBlk nb1_5 [I r10] 3, cBlk b_3 [.map (some b_2)] 151, cBlk b_1 [.pointer (some ⟨b_w_, 0, none⟩)] 111] R := H
  try simp only []
  refine WD.seq ?_
  refine WD.of ?_
  refine W.region rfl ?_
  refine s_val (x_ld (p := .pointer (some ⟨b_3, 0, none⟩)) (v := .map (some b_2)) rfl (ldb_sc Sc151 (H.blk (k := 4) rfl) rfl)) ?_
  refine t_delK (i := 1) (ks := mp) (k := 40001) (L' := [cMk (D13z :: ([])), cKs b_2 (mp.erase 40001), cBlk nb0_4 [.pointer (some ⟨b_w_, 0, none⟩)] 111, cBlk nb1_5 [I r10] 3, cBlk b_3 [.map (some b_2)] 151, cBlk b_1 [.pointer (some ⟨b_w_, 0, none⟩)] 111]) keyIntB rfl Try.underlying151 H rfl rfl rfl rfl ?_
  intro w29z H
  refine s_nil ?_
  refine WD.seq ?_
  refine WD.of ?_
  refine W.region rfl ?_
  refine s_val (x_ld (p := .pointer (some ⟨b_3, 0, none⟩)) (v := .map (some b_2)) rfl (ldb_sc Sc151 (H.blk (k := 4) rfl) rfl)) ?_
  refine s_call cf91 [.map (some b_2)] rfl (keys_any b_2 _) ?_
  rintro _ w30z ⟨b_7, rfl, hn_⟩
  replace H : St w w30z [cBlk b_7 [.map (some b_2)] 151, cMk (D13z :: ([])), cKs b_2 (mp.erase 40001), cBlk nb0_4 [.pointer (some ⟨b_w_, 0, none⟩)] 111, cBlk nb1_5 [I r10] 3, cBlk b_3 [.map (some b_2)] 151, cBlk b_1 [.pointer (some ⟨b_w_, 0, none⟩)] 111] R := H.freshB hn_
  clear hn_
  obtain ⟨sd33z, hM⟩ := M.e_grd hM
  simp only [Bool.and_eq_true, decide_eq_true_eq] at sd33z
  obtain ⟨es_, n_, hb_, hm_, hn_⟩ := H.get (k := 2) rfl
  refine s_call cf90 [.func (.func 104) #[] #[.pointer (some ⟨b_7, 0, none⟩)]] rfl (sortedKeys_any hb_ hm_ hn_ (by first | assumption | simp_all) (by omega) (H.blk (k := 0) rfl)) ?_
  rintro v32z w31z ⟨ho_, hb2_⟩
  replace H : St w w31z [cOwn (α := Int) 3 v32z (isort (mp.erase 40001)), cBlk b_7 [.map (some b_2)] 151, cMk (D13z :: ([])), cKs b_2 (mp.erase 40001), cBlk nb0_4 [.pointer (some ⟨b_w_, 0, none⟩)] 111, cBlk nb1_5 [I r10] 3, cBlk b_3 [.map (some b_2)] 151, cBlk b_1 [.pointer (some ⟨b_w_, 0, none⟩)] 111] R := H.belowOwn hb2_ ho_
  clear hb2_ ho_ hb_ hm_ hn_
  refine s_val (x_as (v := v32z) rfl) ?_
  refine s_nil ?_
  refine WD.of ?_
  refine W.ret ?_
  refine bodyD_r (H.pick [2, 0, 1, 3, 4, 5, 6, 7] (by decide) rfl) ?_
  intro w34z H
  replace H : St w w34z [cOwn (α := Int) 3 v32z (isort (mp.erase 40001)), cBlk b_7 [.map (some b_2)] 151, cKs b_2 (mp.erase 40001), cBlk nb0_4 [.pointer (some ⟨b_w_, 0, none⟩)] 111, cBlk nb1_5 [I r10] 3, cBlk b_3 [.map (some b_2)] 151, cBlk b_1 [.pointer (some ⟨b_w_, 0, none⟩)] 111] R := H
  have hr_ := M.e_pure hM
  exact ⟨_, resE_tmp rfl, ⟨(isort (mp.erase 40001)), v32z, hr_, rfl, (H.pick [0] (by decide) rfl)⟩⟩
 ·obtain ⟨_, _, h_⟩ := hY26z; exact h_.elim

def m_level_parted_b0 (n_Marks : Int) (n_Lines : List Line) (m_ : Mv) : (Nat × (List Line)) -> M ((Nat × (List Line)) ⊕ ((List Line) × (List Line))) := fun (s, l) =>
  bif decide ((s : Int) < (n_Lines.length : Int)) then (
  M.grd (decide ((s : Int) < (l.length : Int))) <|
  bif decide (((l.getD s default).day) < m_.day) then (
  M.pure (.inl (s + 1, l)))
  else (
  bif ((l.getD s default).src) == m_.mark then (
  bif (((l.set s ({ (l.getD s default) with src := n_Marks })).getD s default).dst) == m_.mark then (
  M.pure (.inl (s + 1, (l.set s ({ (l.getD s default) with src := n_Marks })).set s ({ ((l.set s ({ (l.getD s default) with src := n_Marks })).getD s default) with dst := n_Marks }))))
  else (
  M.pure (.inl (s + 1, l.set s ({ (l.getD s default) with src := n_Marks })))))
  else (
  bif ((l.getD s default).dst) == m_.mark then (
  M.pure (.inl (s + 1, l.set s ({ (l.getD s default) with dst := n_Marks }))))
  else (
  M.pure (.inl (s + 1, l))))))
  else (
  M.pure (.inr (l, l)))
def m_level_parted (n_Marks : Int) (n_Lines : List Line) (m_ : Mv) : M (Int × (List Line)) :=
  M.grd (decide ((-9223372036854775808 : Int) <= (n_Marks + 1)) && decide ((n_Marks + 1) <= (9223372036854775807 : Int))) <|
  M.grd (decide (n_Lines.length * 40 <= 140737488355328)) <|
  M.bind (M.iter (m_level_parted_b0 n_Marks n_Lines m_) (0, n_Lines)) fun (l2, l3) =>
  M.pure ((n_Marks + 1), l3)
theorem level_parted_ok {R : List Chunk} {C_n_Lines : Cells} {v_n_Lines : Value} (n_Marks : Int) (n_Lines : List Line) (m_ : Mv) (hC_n_Lines : Reads R C_n_Lines) (hs_n_Lines : Sl C_n_Lines v_n_Lines n_Lines) {r : (Int × (List Line))} (hM : (m_level_parted n_Marks n_Lines m_).Ends r) (w : World) (H : St w w [] R) : Ret Try.prog 63 #[.agg #[I n_Marks, v_n_Lines], .agg #[I m_.mark, I m_.day]] w fun v w' => ∃ (y0 : Int) (y1 : List Line) (u0 : Value), (y0, y1) = r /\ v = .agg #[I y0, u0] /\ St w w' [cOwn (α := Line) 34 u0 y1] R := by
 refine ret_of_W Try.func63 rfl rfl rfl ?_
 refine W.seq ?_
 refine W.region rfl ?_
 refine t_box (v := .agg #[I n_Marks, v_n_Lines]) (cs := [I n_Marks, v_n_Lines]) H rfl rfl ?_
 intro b_1 w1z H
 refine t_box (v := .agg #[I m_.mark, I m_.day]) (cs := [I m_.mark, I m_.day]) H rfl rfl ?_
 intro b_2 w2z H
 refine t_alloc (cs := [I 0, .slice none 0 0]) H Al25 rfl ?_
 intro b_3 w3z H
 refine s_nil ?_
 refine W.seq ?_
 refine W.drawT (fun W => St w W [cBlk b_3 [I 0, .slice none 0 0] 25, cBlk b_2 [I m_.mark, I m_.day] 50, cBlk b_1 [I n_Marks, v_n_Lines] 25] R) (.q 0 (.q 1 (.q 2 (.q 3 (.q 4 (.l2 5 (.q 6 (.l 7 (.l 8 .nil))) 7 (.l 5 (.q 6 (.l 8 .nil))))))))) mixed (by decide +kernel) rfl ?_
 intro w4z hx_
 replace H : St w w4z [cBlk b_3 [I 0, .slice none 0 0] 25, cBlk b_2 [I m_.mark, I m_.day] 50, cBlk b_1 [I n_Marks, v_n_Lines] 25] R := H.ext hx_
 clear hx_
 refine ⟨(H.pick [0, 1, 2] (by decide) rfl), ?_⟩
 refine t_q rfl (fun w' H => x_fa (a := .pointer (some ⟨b_1, 0, none⟩)) (v := .pointer (some ⟨b_1, 0, none⟩)) rfl (fa_blk (o := 0) Fd25_0 Sz3)) ?_
 refine t_q rfl (fun w' H => x_ld (p := .pointer (some ⟨b_1, 0, none⟩)) (v := I n_Marks) rfl (ldb_sc Sc3 (H.blk (k := 2) rfl) rfl)) ?_
 obtain ⟨sd5z, hM⟩ := M.e_grd hM
 simp only [Bool.and_eq_true, decide_eq_true_eq] at sd5z
 refine t_q rfl (fun w' H => x_ari (a := n_Marks) (b := 1) (r := n_Marks + 1) rfl rfl rfl (by omega)) ?_
 refine t_q rfl (fun w' H => x_fa (a := .pointer (some ⟨b_1, 0, none⟩)) (v := .pointer (some ⟨b_1, 1, none⟩)) rfl (fa_blk (o := 0) Fd25_1 Sz23)) ?_
 refine t_q rfl (fun w' H => x_ld (p := .pointer (some ⟨b_1, 1, none⟩)) (v := v_n_Lines) rfl (ldb_sc Sc23 (H.blk (k := 2) rfl) rfl)) ?_
 obtain ⟨sd8z, hM⟩ := M.e_grd hM
 simp only [Bool.and_eq_true, decide_eq_true_eq] at sd8z
 refine t_l2 rfl rfl ?_ ?_
 ·skip
  refine s_call cfr93 [v_n_Lines] rfl (clone_any n_Lines (hC_n_Lines.app _) hs_n_Lines (by omega) _ H.sep) ?_
  rintro v11z w12z H2_
  replace H : St w w12z [cOwn (α := Line) 34 v11z n_Lines, cBlk b_3 [I 0, .slice none 0 0] 25, cBlk b_2 [I m_.mark, I m_.day] 50, cBlk b_1 [I n_Marks, v_n_Lines] 25] R := H.back H2_ rfl
  clear H2_
  have hvc_q13z := Sl.cells (ownSl (H.get (k := 0) rfl))
  have hvo_q13z := Sl.oc (ownSl (H.get (k := 0) rfl))
  refine s_nil ⟨(H.pick [1, 2, 3] (by decide) rfl), ?_⟩
  refine t_q rfl (fun w' H => x_bld (ps := [(0, I (n_Marks + 1)), (1, v11z)]) (zs := [I 0, .slice none 0 0]) (L' := [I (n_Marks + 1), v11z]) rfl Try.underlying25 Al25 rfl (Bd25 Try.underlying25) (.cons (cs := [I (n_Marks + 1)]) rfl rfl rfl rfl rfl <| .cons (cs := [v11z]) hvc_q13z rfl rfl rfl rfl <| .nil)) ?_
  refine t_l rfl ?_
  refine t_alloc (cs := [I 0, .slice none 0 0]) H Al25 rfl ?_
  intro b_5 w14z H
  refine s_nil ⟨(H.pick [2, 3, 4] (by decide) rfl), ?_⟩
  refine t_l rfl ?_
  refine t_st (k := 0) (b := b_5) (off := 0) (cs := [I 0, .slice none 0 0]) (vs := [I (n_Marks + 1), v11z]) (cs' := [I (n_Marks + 1), v11z]) (v := .agg #[I (n_Marks + 1), v11z]) (L' := [cBlk b_5 [I (n_Marks + 1), v11z] 25, cOwn (α := Line) 34 v11z n_Lines, cBlk b_3 [I 0, .slice none 0 0] 25, cBlk b_2 [I m_.mark, I m_.day] 50, cBlk b_1 [I n_Marks, v_n_Lines] 25]) H rfl rfl rfl Sz25 rfl rfl rfl (by simp only [List.all_cons, List.all_nil, Bool.true_and, Bool.and_true, Sl.oc (ownSl (H.get (k := 1) rfl))]; try rfl) rfl rfl ?_
  intro w15z H
  refine s_nil ⟨(H.pick [2, 3, 4] (by decide) rfl), ?_⟩
  refine t_nil ?_
  refine W.seq ?_
  refine W.seq ?_
  refine W.region rfl ?_
  refine s_val (x_fa (a := .pointer (some ⟨b_5, 0, none⟩)) (v := .pointer (some ⟨b_5, 1, none⟩)) rfl (fa_blk (o := 0) Fd25_1 Sz23)) ?_
  refine s_val (x_ld (p := .pointer (some ⟨b_5, 1, none⟩)) (v := v11z) rfl (ldb_sc Sc23 (H.blk (k := 0) rfl) rfl)) ?_
  have hl16z := ((ownSl (H.get (k := 1) rfl))).len_le
  refine s_val (x_lenS T23.und rfl (ownSl (H.get (k := 1) rfl))) ?_
  refine s_val (x_mv (v := I 0) rfl) ?_
  refine s_nil ?_
  refine W.block ?_
  obtain ⟨ex17z, hi18z, hk19z⟩ := M.e_bind hM
  obtain ⟨m0_, hi18z⟩ := M.e_iter hi18z
  refine W.loop (fun m σ W => ∃ (s : Nat) (l : List Line) (v_l : Value) (ρ : Env), σ = upds ρ [(2, .pointer (some ⟨b_1, 0, none⟩)), (3, .pointer (some ⟨b_2, 0, none⟩)), (4, .pointer (some ⟨b_3, 0, none⟩)), (5, .pointer (some ⟨b_5, 0, none⟩)), (17, I (n_Lines.length : Int)), (18, I (s : Int))] /\ M.iterN (m_level_parted_b0 n_Marks n_Lines m_) m (s, l) = some ex17z /\ St w W [cBlk b_5 [I (n_Marks + 1), v_l] 25, cOwn (α := Line) 34 v_l l, cBlk b_3 [I 0, .slice none 0 0] 25, cBlk b_2 [I m_.mark, I m_.day] 50, cBlk b_1 [I n_Marks, v_n_Lines] 25] R) ?_ ?_
  ·exact ⟨_, 0, n_Lines, v11z, _, upds_of _ _ ⟨rfl, rfl, rfl, rfl, rfl, rfl, trivial⟩, hi18z, H⟩
  ·rintro m22z σ w20z ⟨s, l, v_l, ρ, rfl, hI21z, H⟩
   obtain ⟨m23z, lt24z, x25z, hM, hN26z⟩ := M.e_iterN hI21z
   simp only [m_level_parted_b0] at hM
   clear hI21z
   refine W.seq ?_
   refine W.region rfl ?_
   refine s_val (x_cmp (kd := .i64) (a := (s : Int)) (b := (n_Lines.length : Int)) (r := decide ((s : Int) < (n_Lines.length : Int))) rfl rfl rfl) ?_
   refine s_nil ?_
   refine W.seq ?_
   refine W.cond (decide ((s : Int) < (n_Lines.length : Int))) rfl (fun c27z => ?_) (fun c27z => ?_)
   ·replace hM := M.e_t hM c27z
    simp only [decide_eq_true_eq, decide_eq_false_iff_not, beq_iff_eq, bne_iff_ne, beq_eq_false_iff_ne, bne_eq_false_iff_eq, ne_eq, Decidable.not_not] at c27z
    refine W.skip ?_
    refine W.seq ?_
    refine W.block ?_
    refine W.seq ?_
    refine W.region rfl ?_
    refine s_val (x_mv (v := I (s : Int)) rfl) ?_
    refine s_val (x_as (v := I (s : Int)) rfl) ?_
    refine s_nil ?_
    refine W.seq ?_
    refine W.region rfl ?_
    refine s_val (x_fa (a := .pointer (some ⟨b_5, 0, none⟩)) (v := .pointer (some ⟨b_5, 1, none⟩)) rfl (fa_blk (o := 0) Fd25_1 Sz23)) ?_
    refine s_val (x_ld (p := .pointer (some ⟨b_5, 1, none⟩)) (v := v_l) rfl (ldb_sc Sc23 (H.blk (k := 0) rfl) rfl)) ?_
    refine s_val (x_mv (v := I (s : Int)) rfl) ?_
    obtain ⟨sd28z, hM⟩ := M.e_grd hM
    simp only [Bool.and_eq_true, decide_eq_true_eq] at sd28z
    refine s_val (x_ix (a := v_l) (b := I (s : Int)) (v := vat v_l 5 (Int.toNat (s : Int))) rfl rfl (Sl.ix (α := Line) T23.und T23.size (ownSl (H.get (k := 1) rfl)) (by omega) (by omega))) ?_
    refine s_val (x_as (v := vat v_l 5 (Int.toNat (s : Int))) rfl) ?_
    refine s_nil ?_
    refine W.seq ?_
    refine W.seq ?_
    refine W.draw (fun W => St w W [cBlk b_5 [I (n_Marks + 1), v_l] 25, cOwn (α := Line) 34 v_l l, cBlk b_3 [I 0, .slice none 0 0] 25, cBlk b_2 [I m_.mark, I m_.day] 50, cBlk b_1 [I n_Marks, v_n_Lines] 25] R) [(0, true), (1, true), (2, true), (3, true), (4, true), (5, true), (6, true)] mixed (by decide +kernel) rfl ?_
    intro w29z hx_
    replace H : St w w29z [cBlk b_5 [I (n_Marks + 1), v_l] 25, cOwn (α := Line) 34 v_l l, cBlk b_3 [I 0, .slice none 0 0] 25, cBlk b_2 [I m_.mark, I m_.day] 50, cBlk b_1 [I n_Marks, v_n_Lines] 25] R := H.ext hx_
    clear hx_
    refine ⟨(H.pick [0, 1, 2, 3, 4] (by decide) rfl), ?_⟩
    refine d_q rfl (fun w' H => x_mv (v := vat v_l 5 (Int.toNat (s : Int))) rfl) ?_
    refine d_q rfl (fun w' H => x_ncE (p := vat v_l 5 (Int.toNat (s : Int))) rfl (Sl.pl (i := (s : Int)) (ownSl (H.get (k := 1) rfl)) (by omega) (by omega))) ?_
    refine d_q rfl (fun w' H => x_fa (a := vat v_l 5 (Int.toNat (s : Int))) (v := fat (vat v_l 5 (Int.toNat (s : Int))) 2) rfl (fa_pl Fd34_2 Sz3 (Sl.pl (i := (s : Int)) (ownSl (H.get (k := 1) rfl)) (by omega) (by omega)))) ?_
    refine d_q rfl (fun w' H => x_ld (p := fat (vat v_l 5 (Int.toNat (s : Int))) 2) (v := I ((l.getD s default).day)) rfl (ld_sc Sc3 (At.mono (Line_at2 (ownSl (H.get (k := 1) rfl)) (i := (s : Int)) (by omega) (by omega)) (ownLe _ (H.get (k := 1) rfl))))) ?_
    refine d_q rfl (fun w' H => x_fa (a := .pointer (some ⟨b_2, 0, none⟩)) (v := .pointer (some ⟨b_2, 1, none⟩)) rfl (fa_blk (o := 0) Fd50_1 Sz3)) ?_
    refine d_q rfl (fun w' H => x_ld (p := .pointer (some ⟨b_2, 1, none⟩)) (v := I m_.day) rfl (ldb_sc Sc3 (H.blk (k := 3) rfl) rfl)) ?_
    refine d_q rfl (fun w' H => x_cmp (kd := .i64) (a := (l.getD s default).day) (b := m_.day) (r := decide (((l.getD s default).day) < m_.day)) rfl rfl rfl) ?_
    refine d_nil ?_
    refine W.cond (decide (((l.getD s default).day) < m_.day)) rfl (fun c30z => ?_) (fun c30z => ?_)
    ·replace hM := M.e_t hM c30z
     simp only [decide_eq_true_eq, decide_eq_false_iff_not, beq_iff_eq, bne_iff_ne, beq_eq_false_iff_ne, bne_eq_false_iff_eq, ne_eq, Decidable.not_not] at c30z
     refine W.exit ?_
     refine W.region rfl ?_
     refine s_val (x_ari (a := (s : Int)) (b := 1) (r := (s : Int) + 1) rfl rfl rfl (by omega)) ?_
     refine s_val (x_mv (v := I ((s : Int) + 1)) rfl) ?_
     refine s_nil ?_
     exact ⟨m23z, lt24z, s + 1, l, v_l, _, upds_of _ _ ⟨rfl, rfl, rfl, rfl, rfl, rfl, trivial⟩, M.e_inl hM hN26z, H⟩
    ·replace hM := M.e_f hM c30z
     simp only [decide_eq_true_eq, decide_eq_false_iff_not, beq_iff_eq, bne_iff_ne, beq_eq_false_iff_ne, bne_eq_false_iff_eq, ne_eq, Decidable.not_not] at c30z
     refine W.skip ?_
     refine W.seq ?_
     refine W.seq ?_
     refine W.draw (fun W => St w W [cBlk b_5 [I (n_Marks + 1), v_l] 25, cOwn (α := Line) 34 v_l l, cBlk b_3 [I 0, .slice none 0 0] 25, cBlk b_2 [I m_.mark, I m_.day] 50, cBlk b_1 [I n_Marks, v_n_Lines] 25] R) [(0, true), (1, true), (2, true), (3, true), (4, true), (5, true), (6, true)] mixed (by decide +kernel) rfl ?_
     intro w31z hx_
     replace H : St w w31z [cBlk b_5 [I (n_Marks + 1), v_l] 25, cOwn (α := Line) 34 v_l l, cBlk b_3 [I 0, .slice none 0 0] 25, cBlk b_2 [I m_.mark, I m_.day] 50, cBlk b_1 [I n_Marks, v_n_Lines] 25] R := H.ext hx_
     clear hx_
     refine ⟨(H.pick [0, 1, 2, 3, 4] (by decide) rfl), ?_⟩
     refine d_q rfl (fun w' H => x_mv (v := vat v_l 5 (Int.toNat (s : Int))) rfl) ?_
     refine d_q rfl (fun w' H => x_ncE (p := vat v_l 5 (Int.toNat (s : Int))) rfl (Sl.pl (i := (s : Int)) (ownSl (H.get (k := 1) rfl)) (by omega) (by omega))) ?_
     refine d_q rfl (fun w' H => x_fa (a := vat v_l 5 (Int.toNat (s : Int))) (v := fat (vat v_l 5 (Int.toNat (s : Int))) 0) rfl (fa_pl Fd34_0 Sz3 (Sl.pl (i := (s : Int)) (ownSl (H.get (k := 1) rfl)) (by omega) (by omega)))) ?_
     refine d_q rfl (fun w' H => x_ld (p := fat (vat v_l 5 (Int.toNat (s : Int))) 0) (v := I ((l.getD s default).src)) rfl (ld_sc Sc3 (At.mono (Line_at0 (ownSl (H.get (k := 1) rfl)) (i := (s : Int)) (by omega) (by omega)) (ownLe _ (H.get (k := 1) rfl))))) ?_
     refine d_q rfl (fun w' H => x_fa (a := .pointer (some ⟨b_2, 0, none⟩)) (v := .pointer (some ⟨b_2, 0, none⟩)) rfl (fa_blk (o := 0) Fd50_0 Sz3)) ?_
     refine d_q rfl (fun w' H => x_ld (p := .pointer (some ⟨b_2, 0, none⟩)) (v := I m_.mark) rfl (ldb_sc Sc3 (H.blk (k := 3) rfl) rfl)) ?_
     refine d_q rfl (fun w' H => x_cmp (kd := .i64) (a := (l.getD s default).src) (b := m_.mark) (r := ((l.getD s default).src) == m_.mark) rfl rfl rfl) ?_
     refine d_nil ?_
     refine W.cond (((l.getD s default).src) == m_.mark) rfl (fun c32z => ?_) (fun c32z => ?_)
     ·replace hM := M.e_t hM c32z
      simp only [decide_eq_true_eq, decide_eq_false_iff_not, beq_iff_eq, bne_iff_ne, beq_eq_false_iff_ne, bne_eq_false_iff_eq, ne_eq, Decidable.not_not] at c32z
      refine W.region rfl ?_
      refine s_val (x_mv (v := vat v_l 5 (Int.toNat (s : Int))) rfl) ?_
      refine s_val (x_fa (a := .pointer (some ⟨b_1, 0, none⟩)) (v := .pointer (some ⟨b_1, 0, none⟩)) rfl (fa_blk (o := 0) Fd25_0 Sz3)) ?_
      refine s_val (x_ld (p := .pointer (some ⟨b_1, 0, none⟩)) (v := I n_Marks) rfl (ldb_sc Sc3 (H.blk (k := 4) rfl) rfl)) ?_
      refine s_val (x_ncE (p := vat v_l 5 (Int.toNat (s : Int))) rfl (Sl.pl (i := (s : Int)) (ownSl (H.get (k := 1) rfl)) (by omega) (by omega))) ?_
      refine s_val (x_fa (a := vat v_l 5 (Int.toNat (s : Int))) (v := fat (vat v_l 5 (Int.toNat (s : Int))) 0) rfl (fa_pl Fd34_0 Sz3 (Sl.pl (i := (s : Int)) (ownSl (H.get (k := 1) rfl)) (by omega) (by omega)))) ?_
      refine t_fst (α := Line) (k := 1) (i := (s : Int)) (off := 0) (l := l) (l' := l.set s ({ (l.getD s default) with src := n_Marks })) (val := I n_Marks) (L' := [cBlk b_5 [I (n_Marks + 1), v_l] 25, cOwn (α := Line) 34 v_l (l.set s ({ (l.getD s default) with src := n_Marks })), cBlk b_3 [I 0, .slice none 0 0] 25, cBlk b_2 [I m_.mark, I m_.day] 50, cBlk b_1 [I n_Marks, v_n_Lines] 25]) H rfl Sz3 (by omega) (by omega) (l.getD s default) ({ (l.getD s default) with src := n_Marks }) (getD_some _ (by omega) _) rfl rfl [I n_Marks] rfl rfl rfl rfl rfl rfl rfl ?_
      intro w33z H
      have hls_q34z : (l.set s ({ (l.getD s default) with src := n_Marks })).length = (l).length := List.length_set
      refine s_nil ?_
      refine W.seq ?_
      refine W.draw (fun W => St w W [cBlk b_5 [I (n_Marks + 1), v_l] 25, cOwn (α := Line) 34 v_l (l.set s ({ (l.getD s default) with src := n_Marks })), cBlk b_3 [I 0, .slice none 0 0] 25, cBlk b_2 [I m_.mark, I m_.day] 50, cBlk b_1 [I n_Marks, v_n_Lines] 25] R) [(0, true), (1, true), (2, true), (3, true), (4, true), (5, true), (6, true)] mixed (by decide +kernel) rfl ?_
      intro w35z hx_
      replace H : St w w35z [cBlk b_5 [I (n_Marks + 1), v_l] 25, cOwn (α := Line) 34 v_l (l.set s ({ (l.getD s default) with src := n_Marks })), cBlk b_3 [I 0, .slice none 0 0] 25, cBlk b_2 [I m_.mark, I m_.day] 50, cBlk b_1 [I n_Marks, v_n_Lines] 25] R := H.ext hx_
      clear hx_
      refine ⟨(H.pick [0, 1, 2, 3, 4] (by decide) rfl), ?_⟩
      refine d_q rfl (fun w' H => x_mv (v := vat v_l 5 (Int.toNat (s : Int))) rfl) ?_
      refine d_q rfl (fun w' H => x_ncE (p := vat v_l 5 (Int.toNat (s : Int))) rfl (Sl.pl (i := (s : Int)) (ownSl (H.get (k := 1) rfl)) (by omega) (by omega))) ?_
      refine d_q rfl (fun w' H => x_fa (a := vat v_l 5 (Int.toNat (s : Int))) (v := fat (vat v_l 5 (Int.toNat (s : Int))) 1) rfl (fa_pl Fd34_1 Sz3 (Sl.pl (i := (s : Int)) (ownSl (H.get (k := 1) rfl)) (by omega) (by omega)))) ?_
      refine d_q rfl (fun w' H => x_ld (p := fat (vat v_l 5 (Int.toNat (s : Int))) 1) (v := I (((l.set s ({ (l.getD s default) with src := n_Marks })).getD s default).dst)) rfl (ld_sc Sc3 (At.mono (Line_at1 (ownSl (H.get (k := 1) rfl)) (i := (s : Int)) (by omega) (by omega)) (ownLe _ (H.get (k := 1) rfl))))) ?_
      refine d_q rfl (fun w' H => x_fa (a := .pointer (some ⟨b_2, 0, none⟩)) (v := .pointer (some ⟨b_2, 0, none⟩)) rfl (fa_blk (o := 0) Fd50_0 Sz3)) ?_
      refine d_q rfl (fun w' H => x_ld (p := .pointer (some ⟨b_2, 0, none⟩)) (v := I m_.mark) rfl (ldb_sc Sc3 (H.blk (k := 3) rfl) rfl)) ?_
      refine d_q rfl (fun w' H => x_cmp (kd := .i64) (a := ((l.set s ({ (l.getD s default) with src := n_Marks })).getD s default).dst) (b := m_.mark) (r := (((l.set s ({ (l.getD s default) with src := n_Marks })).getD s default).dst) == m_.mark) rfl rfl rfl) ?_
      refine d_nil ?_
      refine W.cond ((((l.set s ({ (l.getD s default) with src := n_Marks })).getD s default).dst) == m_.mark) rfl (fun c36z => ?_) (fun c36z => ?_)
      ·replace hM := M.e_t hM c36z
       simp only [decide_eq_true_eq, decide_eq_false_iff_not, beq_iff_eq, bne_iff_ne, beq_eq_false_iff_ne, bne_eq_false_iff_eq, ne_eq, Decidable.not_not] at c36z
       refine W.region rfl ?_
       refine s_val (x_mv (v := vat v_l 5 (Int.toNat (s : Int))) rfl) ?_
       refine s_val (x_fa (a := .pointer (some ⟨b_1, 0, none⟩)) (v := .pointer (some ⟨b_1, 0, none⟩)) rfl (fa_blk (o := 0) Fd25_0 Sz3)) ?_
       refine s_val (x_ld (p := .pointer (some ⟨b_1, 0, none⟩)) (v := I n_Marks) rfl (ldb_sc Sc3 (H.blk (k := 4) rfl) rfl)) ?_
       refine s_val (x_ncE (p := vat v_l 5 (Int.toNat (s : Int))) rfl (Sl.pl (i := (s : Int)) (ownSl (H.get (k := 1) rfl)) (by omega) (by omega))) ?_
       refine s_val (x_fa (a := vat v_l 5 (Int.toNat (s : Int))) (v := fat (vat v_l 5 (Int.toNat (s : Int))) 1) rfl (fa_pl Fd34_1 Sz3 (Sl.pl (i := (s : Int)) (ownSl (H.get (k := 1) rfl)) (by omega) (by omega)))) ?_
       refine t_fst (α := Line) (k := 1) (i := (s : Int)) (off := 1) (l := l.set s ({ (l.getD s default) with src := n_Marks })) (l' := (l.set s ({ (l.getD s default) with src := n_Marks })).set s ({ ((l.set s ({ (l.getD s default) with src := n_Marks })).getD s default) with dst := n_Marks })) (val := I n_Marks) (L' := [cBlk b_5 [I (n_Marks + 1), v_l] 25, cOwn (α := Line) 34 v_l ((l.set s ({ (l.getD s default) with src := n_Marks })).set s ({ ((l.set s ({ (l.getD s default) with src := n_Marks })).getD s default) with dst := n_Marks })), cBlk b_3 [I 0, .slice none 0 0] 25, cBlk b_2 [I m_.mark, I m_.day] 50, cBlk b_1 [I n_Marks, v_n_Lines] 25]) H rfl Sz3 (by omega) (by omega) ((l.set s ({ (l.getD s default) with src := n_Marks })).getD s default) ({ ((l.set s ({ (l.getD s default) with src := n_Marks })).getD s default) with dst := n_Marks }) (getD_some _ (by omega) _) rfl rfl [I n_Marks] rfl rfl rfl rfl rfl rfl rfl ?_
       intro w37z H
       have hls_q38z : ((l.set s ({ (l.getD s default) with src := n_Marks })).set s ({ ((l.set s ({ (l.getD s default) with src := n_Marks })).getD s default) with dst := n_Marks })).length = (l.set s ({ (l.getD s default) with src := n_Marks })).length := List.length_set
       refine s_nil ?_
       refine W.region rfl ?_
       refine s_val (x_ari (a := (s : Int)) (b := 1) (r := (s : Int) + 1) rfl rfl rfl (by omega)) ?_
       refine s_val (x_mv (v := I ((s : Int) + 1)) rfl) ?_
       refine s_nil ?_
       exact ⟨m23z, lt24z, s + 1, (l.set s ({ (l.getD s default) with src := n_Marks })).set s ({ ((l.set s ({ (l.getD s default) with src := n_Marks })).getD s default) with dst := n_Marks }), v_l, _, upds_of _ _ ⟨rfl, rfl, rfl, rfl, rfl, rfl, trivial⟩, M.e_inl hM hN26z, H⟩
      ·replace hM := M.e_f hM c36z
       simp only [decide_eq_true_eq, decide_eq_false_iff_not, beq_iff_eq, bne_iff_ne, beq_eq_false_iff_ne, bne_eq_false_iff_eq, ne_eq, Decidable.not_not] at c36z
       refine W.skip ?_
       refine W.region rfl ?_
       refine s_val (x_ari (a := (s : Int)) (b := 1) (r := (s : Int) + 1) rfl rfl rfl (by omega)) ?_
       refine s_val (x_mv (v := I ((s : Int) + 1)) rfl) ?_
       refine s_nil ?_
       exact ⟨m23z, lt24z, s + 1, l.set s ({ (l.getD s default) with src := n_Marks }), v_l, _, upds_of _ _ ⟨rfl, rfl, rfl, rfl, rfl, rfl, trivial⟩, M.e_inl hM hN26z, H⟩
     ·replace hM := M.e_f hM c32z
      simp only [decide_eq_true_eq, decide_eq_false_iff_not, beq_iff_eq, bne_iff_ne, beq_eq_false_iff_ne, bne_eq_false_iff_eq, ne_eq, Decidable.not_not] at c32z
      refine W.skip ?_
      refine W.seq ?_
      refine W.draw (fun W => St w W [cBlk b_5 [I (n_Marks + 1), v_l] 25, cOwn (α := Line) 34 v_l l, cBlk b_3 [I 0, .slice none 0 0] 25, cBlk b_2 [I m_.mark, I m_.day] 50, cBlk b_1 [I n_Marks, v_n_Lines] 25] R) [(0, true), (1, true), (2, true), (3, true), (4, true), (5, true), (6, true)] mixed (by decide +kernel) rfl ?_
      intro w39z hx_
      replace H : St w w39z [cBlk b_5 [I (n_Marks + 1), v_l] 25, cOwn (α := Line) 34 v_l l, cBlk b_3 [I 0, .slice none 0 0] 25, cBlk b_2 [I m_.mark, I m_.day] 50, cBlk b_1 [I n_Marks, v_n_Lines] 25] R := H.ext hx_
      clear hx_
      refine ⟨(H.pick [0, 1, 2, 3, 4] (by decide) rfl), ?_⟩
      refine d_q rfl (fun w' H => x_mv (v := vat v_l 5 (Int.toNat (s : Int))) rfl) ?_
      refine d_q rfl (fun w' H => x_ncE (p := vat v_l 5 (Int.toNat (s : Int))) rfl (Sl.pl (i := (s : Int)) (ownSl (H.get (k := 1) rfl)) (by omega) (by omega))) ?_
      refine d_q rfl (fun w' H => x_fa (a := vat v_l 5 (Int.toNat (s : Int))) (v := fat (vat v_l 5 (Int.toNat (s : Int))) 1) rfl (fa_pl Fd34_1 Sz3 (Sl.pl (i := (s : Int)) (ownSl (H.get (k := 1) rfl)) (by omega) (by omega)))) ?_
      refine d_q rfl (fun w' H => x_ld (p := fat (vat v_l 5 (Int.toNat (s : Int))) 1) (v := I ((l.getD s default).dst)) rfl (ld_sc Sc3 (At.mono (Line_at1 (ownSl (H.get (k := 1) rfl)) (i := (s : Int)) (by omega) (by omega)) (ownLe _ (H.get (k := 1) rfl))))) ?_
      refine d_q rfl (fun w' H => x_fa (a := .pointer (some ⟨b_2, 0, none⟩)) (v := .pointer (some ⟨b_2, 0, none⟩)) rfl (fa_blk (o := 0) Fd50_0 Sz3)) ?_
      refine d_q rfl (fun w' H => x_ld (p := .pointer (some ⟨b_2, 0, none⟩)) (v := I m_.mark) rfl (ldb_sc Sc3 (H.blk (k := 3) rfl) rfl)) ?_
      refine d_q rfl (fun w' H => x_cmp (kd := .i64) (a := (l.getD s default).dst) (b := m_.mark) (r := ((l.getD s default).dst) == m_.mark) rfl rfl rfl) ?_
      refine d_nil ?_
      refine W.cond (((l.getD s default).dst) == m_.mark) rfl (fun c40z => ?_) (fun c40z => ?_)
      ·replace hM := M.e_t hM c40z
       simp only [decide_eq_true_eq, decide_eq_false_iff_not, beq_iff_eq, bne_iff_ne, beq_eq_false_iff_ne, bne_eq_false_iff_eq, ne_eq, Decidable.not_not] at c40z
       refine W.region rfl ?_
       refine s_val (x_mv (v := vat v_l 5 (Int.toNat (s : Int))) rfl) ?_
       refine s_val (x_fa (a := .pointer (some ⟨b_1, 0, none⟩)) (v := .pointer (some ⟨b_1, 0, none⟩)) rfl (fa_blk (o := 0) Fd25_0 Sz3)) ?_
       refine s_val (x_ld (p := .pointer (some ⟨b_1, 0, none⟩)) (v := I n_Marks) rfl (ldb_sc Sc3 (H.blk (k := 4) rfl) rfl)) ?_
       refine s_val (x_ncE (p := vat v_l 5 (Int.toNat (s : Int))) rfl (Sl.pl (i := (s : Int)) (ownSl (H.get (k := 1) rfl)) (by omega) (by omega))) ?_
       refine s_val (x_fa (a := vat v_l 5 (Int.toNat (s : Int))) (v := fat (vat v_l 5 (Int.toNat (s : Int))) 1) rfl (fa_pl Fd34_1 Sz3 (Sl.pl (i := (s : Int)) (ownSl (H.get (k := 1) rfl)) (by omega) (by omega)))) ?_
       refine t_fst (α := Line) (k := 1) (i := (s : Int)) (off := 1) (l := l) (l' := l.set s ({ (l.getD s default) with dst := n_Marks })) (val := I n_Marks) (L' := [cBlk b_5 [I (n_Marks + 1), v_l] 25, cOwn (α := Line) 34 v_l (l.set s ({ (l.getD s default) with dst := n_Marks })), cBlk b_3 [I 0, .slice none 0 0] 25, cBlk b_2 [I m_.mark, I m_.day] 50, cBlk b_1 [I n_Marks, v_n_Lines] 25]) H rfl Sz3 (by omega) (by omega) (l.getD s default) ({ (l.getD s default) with dst := n_Marks }) (getD_some _ (by omega) _) rfl rfl [I n_Marks] rfl rfl rfl rfl rfl rfl rfl ?_
       intro w41z H
       have hls_q42z : (l.set s ({ (l.getD s default) with dst := n_Marks })).length = (l).length := List.length_set
       refine s_nil ?_
       refine W.region rfl ?_
       refine s_val (x_ari (a := (s : Int)) (b := 1) (r := (s : Int) + 1) rfl rfl rfl (by omega)) ?_
       refine s_val (x_mv (v := I ((s : Int) + 1)) rfl) ?_
       refine s_nil ?_
       exact ⟨m23z, lt24z, s + 1, l.set s ({ (l.getD s default) with dst := n_Marks }), v_l, _, upds_of _ _ ⟨rfl, rfl, rfl, rfl, rfl, rfl, trivial⟩, M.e_inl hM hN26z, H⟩
      ·replace hM := M.e_f hM c40z
       simp only [decide_eq_true_eq, decide_eq_false_iff_not, beq_iff_eq, bne_iff_ne, beq_eq_false_iff_ne, bne_eq_false_iff_eq, ne_eq, Decidable.not_not] at c40z
       refine W.skip ?_
       refine W.region rfl ?_
       refine s_val (x_ari (a := (s : Int)) (b := 1) (r := (s : Int) + 1) rfl rfl rfl (by omega)) ?_
       refine s_val (x_mv (v := I ((s : Int) + 1)) rfl) ?_
       refine s_nil ?_
       exact ⟨m23z, lt24z, s + 1, l, v_l, _, upds_of _ _ ⟨rfl, rfl, rfl, rfl, rfl, rfl, trivial⟩, M.e_inl hM hN26z, H⟩
   ·replace hM := M.e_f hM c27z
    simp only [decide_eq_true_eq, decide_eq_false_iff_not, beq_iff_eq, bne_iff_ne, beq_eq_false_iff_ne, bne_eq_false_iff_eq, ne_eq, Decidable.not_not] at c27z
    refine W.exit ?_
    have hX43z := M.e_inr hM hN26z
    subst hX43z
    replace hM := hk19z
    try dsimp only at hM
    refine W.seq ?_
    refine W.region rfl ?_
    refine s_val (x_ld (p := .pointer (some ⟨b_5, 0, none⟩)) (v := .agg #[I (n_Marks + 1), v_l]) rfl (ldb_ag (ds := [I (n_Marks + 1), v_l]) Ag25 Sz25 (H.blk (k := 0) rfl) rfl rfl)) ?_
    refine t_st (k := 2) (b := b_3) (off := 0) (cs := [I 0, .slice none 0 0]) (vs := [I (n_Marks + 1), v_l]) (cs' := [I (n_Marks + 1), v_l]) (v := .agg #[I (n_Marks + 1), v_l]) (L' := [cBlk b_5 [I (n_Marks + 1), v_l] 25, cOwn (α := Line) 34 v_l l, cBlk b_3 [I (n_Marks + 1), v_l] 25, cBlk b_2 [I m_.mark, I m_.day] 50, cBlk b_1 [I n_Marks, v_n_Lines] 25]) H rfl rfl rfl Sz25 rfl rfl rfl (by simp only [List.all_cons, List.all_nil, Bool.true_and, Bool.and_true, Sl.oc (ownSl (H.get (k := 1) rfl))]; try rfl) rfl rfl ?_
    intro w44z H
    refine s_nil ?_
    refine W.ret ?_
    have hb45z := (H.blk (k := 2) rfl)
    have hr_ := M.e_pure hM
    exact ⟨_, (resE_of1 (v := .agg #[I (n_Marks + 1), v_l]) rfl (.cell (v := .agg #[I (n_Marks + 1), v_l]) rfl (run_loadVar_ag (ds := [I (n_Marks + 1), v_l]) Ag25 Sz25 hb45z rfl rfl) <| .nil)), ⟨(n_Marks + 1), l, v_l, hr_, rfl, (H.pick [1] (by decide) rfl)⟩⟩
 ·skip
  refine t_alloc (cs := [I 0, .slice none 0 0]) H Al25 rfl ?_
  intro b_5 w46z H
  refine s_nil ⟨(H.pick [1, 2, 3] (by decide) rfl), ?_⟩
  refine t_l rfl ?_
  refine s_call cfr93 [v_n_Lines] rfl (clone_any n_Lines (hC_n_Lines.app _) hs_n_Lines (by omega) _ H.sep) ?_
  rintro v47z w48z H2_
  replace H : St w w48z [cOwn (α := Line) 34 v47z n_Lines, cBlk b_5 [I 0, .slice none 0 0] 25, cBlk b_3 [I 0, .slice none 0 0] 25, cBlk b_2 [I m_.mark, I m_.day] 50, cBlk b_1 [I n_Marks, v_n_Lines] 25] R := H.back H2_ rfl
  clear H2_
  have hvc_q49z := Sl.cells (ownSl (H.get (k := 0) rfl))
  have hvo_q49z := Sl.oc (ownSl (H.get (k := 0) rfl))
  refine s_nil ⟨(H.pick [2, 3, 4] (by decide) rfl), ?_⟩
  refine t_q rfl (fun w' H => x_bld (ps := [(0, I (n_Marks + 1)), (1, v47z)]) (zs := [I 0, .slice none 0 0]) (L' := [I (n_Marks + 1), v47z]) rfl Try.underlying25 Al25 rfl (Bd25 Try.underlying25) (.cons (cs := [I (n_Marks + 1)]) rfl rfl rfl rfl rfl <| .cons (cs := [v47z]) hvc_q49z rfl rfl rfl rfl <| .nil)) ?_
  refine t_l rfl ?_
  refine t_st (k := 1) (b := b_5) (off := 0) (cs := [I 0, .slice none 0 0]) (vs := [I (n_Marks + 1), v47z]) (cs' := [I (n_Marks + 1), v47z]) (v := .agg #[I (n_Marks + 1), v47z]) (L' := [cOwn (α := Line) 34 v47z n_Lines, cBlk b_5 [I (n_Marks + 1), v47z] 25, cBlk b_3 [I 0, .slice none 0 0] 25, cBlk b_2 [I m_.mark, I m_.day] 50, cBlk b_1 [I n_Marks, v_n_Lines] 25]) H rfl rfl rfl Sz25 rfl rfl rfl (by simp only [List.all_cons, List.all_nil, Bool.true_and, Bool.and_true, Sl.oc (ownSl (H.get (k := 0) rfl))]; try rfl) rfl rfl ?_
  intro w50z H
  refine s_nil ⟨(H.pick [2, 3, 4] (by decide) rfl), ?_⟩
  refine t_nil ?_
  refine W.seq ?_
  refine W.seq ?_
  refine W.region rfl ?_
  refine s_val (x_fa (a := .pointer (some ⟨b_5, 0, none⟩)) (v := .pointer (some ⟨b_5, 1, none⟩)) rfl (fa_blk (o := 0) Fd25_1 Sz23)) ?_
  refine s_val (x_ld (p := .pointer (some ⟨b_5, 1, none⟩)) (v := v47z) rfl (ldb_sc Sc23 (H.blk (k := 1) rfl) rfl)) ?_
  have hl51z := ((ownSl (H.get (k := 0) rfl))).len_le
  refine s_val (x_lenS T23.und rfl (ownSl (H.get (k := 0) rfl))) ?_
  refine s_val (x_mv (v := I 0) rfl) ?_
  refine s_nil ?_
  refine W.block ?_
  obtain ⟨ex52z, hi53z, hk54z⟩ := M.e_bind hM
  obtain ⟨m0_, hi53z⟩ := M.e_iter hi53z
  refine W.loop (fun m σ W => ∃ (s : Nat) (l : List Line) (v_l : Value) (ρ : Env), σ = upds ρ [(2, .pointer (some ⟨b_1, 0, none⟩)), (3, .pointer (some ⟨b_2, 0, none⟩)), (4, .pointer (some ⟨b_3, 0, none⟩)), (5, .pointer (some ⟨b_5, 0, none⟩)), (17, I (n_Lines.length : Int)), (18, I (s : Int))] /\ M.iterN (m_level_parted_b0 n_Marks n_Lines m_) m (s, l) = some ex52z /\ St w W [cOwn (α := Line) 34 v_l l, cBlk b_5 [I (n_Marks + 1), v_l] 25, cBlk b_3 [I 0, .slice none 0 0] 25, cBlk b_2 [I m_.mark, I m_.day] 50, cBlk b_1 [I n_Marks, v_n_Lines] 25] R) ?_ ?_
  ·exact ⟨_, 0, n_Lines, v47z, _, upds_of _ _ ⟨rfl, rfl, rfl, rfl, rfl, rfl, trivial⟩, hi53z, H⟩
  ·rintro m57z σ w55z ⟨s, l, v_l, ρ, rfl, hI56z, H⟩
   obtain ⟨m58z, lt59z, x60z, hM, hN61z⟩ := M.e_iterN hI56z
   simp only [m_level_parted_b0] at hM
   clear hI56z
   refine W.seq ?_
   refine W.region rfl ?_
   refine s_val (x_cmp (kd := .i64) (a := (s : Int)) (b := (n_Lines.length : Int)) (r := decide ((s : Int) < (n_Lines.length : Int))) rfl rfl rfl) ?_
   refine s_nil ?_
   refine W.seq ?_
   refine W.cond (decide ((s : Int) < (n_Lines.length : Int))) rfl (fun c62z => ?_) (fun c62z => ?_)
   ·replace hM := M.e_t hM c62z
    simp only [decide_eq_true_eq, decide_eq_false_iff_not, beq_iff_eq, bne_iff_ne, beq_eq_false_iff_ne, bne_eq_false_iff_eq, ne_eq, Decidable.not_not] at c62z
    refine W.skip ?_
    refine W.seq ?_
    refine W.block ?_
    refine W.seq ?_
    refine W.region rfl ?_
    refine s_val (x_mv (v := I (s : Int)) rfl) ?_
    refine s_val (x_as (v := I (s : Int)) rfl) ?_
    refine s_nil ?_
    refine W.seq ?_
    refine W.region rfl ?_
    refine s_val (x_fa (a := .pointer (some ⟨b_5, 0, none⟩)) (v := .pointer (some ⟨b_5, 1, none⟩)) rfl (fa_blk (o := 0) Fd25_1 Sz23)) ?_
    refine s_val (x_ld (p := .pointer (some ⟨b_5, 1, none⟩)) (v := v_l) rfl (ldb_sc Sc23 (H.blk (k := 1) rfl) rfl)) ?_
    refine s_val (x_mv (v := I (s : Int)) rfl) ?_
    obtain ⟨sd63z, hM⟩ := M.e_grd hM
    simp only [Bool.and_eq_true, decide_eq_true_eq] at sd63z
    refine s_val (x_ix (a := v_l) (b := I (s : Int)) (v := vat v_l 5 (Int.toNat (s : Int))) rfl rfl (Sl.ix (α := Line) T23.und T23.size (ownSl (H.get (k := 0) rfl)) (by omega) (by omega))) ?_
    refine s_val (x_as (v := vat v_l 5 (Int.toNat (s : Int))) rfl) ?_
    refine s_nil ?_
    refine W.seq ?_
    refine W.seq ?_
    refine W.draw (fun W => St w W [cOwn (α := Line) 34 v_l l, cBlk b_5 [I (n_Marks + 1), v_l] 25, cBlk b_3 [I 0, .slice none 0 0] 25, cBlk b_2 [I m_.mark, I m_.day] 50, cBlk b_1 [I n_Marks, v_n_Lines] 25] R) [(0, true), (1, true), (2, true), (3, true), (4, true), (5, true), (6, true)] mixed (by decide +kernel) rfl ?_
    intro w64z hx_
    replace H : St w w64z [cOwn (α := Line) 34 v_l l, cBlk b_5 [I (n_Marks + 1), v_l] 25, cBlk b_3 [I 0, .slice none 0 0] 25, cBlk b_2 [I m_.mark, I m_.day] 50, cBlk b_1 [I n_Marks, v_n_Lines] 25] R := H.ext hx_
    clear hx_
    refine ⟨(H.pick [0, 1, 2, 3, 4] (by decide) rfl), ?_⟩
    refine d_q rfl (fun w' H => x_mv (v := vat v_l 5 (Int.toNat (s : Int))) rfl) ?_
    refine d_q rfl (fun w' H => x_ncE (p := vat v_l 5 (Int.toNat (s : Int))) rfl (Sl.pl (i := (s : Int)) (ownSl (H.get (k := 0) rfl)) (by omega) (by omega))) ?_
    refine d_q rfl (fun w' H => x_fa (a := vat v_l 5 (Int.toNat (s : Int))) (v := fat (vat v_l 5 (Int.toNat (s : Int))) 2) rfl (fa_pl Fd34_2 Sz3 (Sl.pl (i := (s : Int)) (ownSl (H.get (k := 0) rfl)) (by omega) (by omega)))) ?_
    refine d_q rfl (fun w' H => x_ld (p := fat (vat v_l 5 (Int.toNat (s : Int))) 2) (v := I ((l.getD s default).day)) rfl (ld_sc Sc3 (At.mono (Line_at2 (ownSl (H.get (k := 0) rfl)) (i := (s : Int)) (by omega) (by omega)) (ownLe _ (H.get (k := 0) rfl))))) ?_
    refine d_q rfl (fun w' H => x_fa (a := .pointer (some ⟨b_2, 0, none⟩)) (v := .pointer (some ⟨b_2, 1, none⟩)) rfl (fa_blk (o := 0) Fd50_1 Sz3)) ?_
    refine d_q rfl (fun w' H => x_ld (p := .pointer (some ⟨b_2, 1, none⟩)) (v := I m_.day) rfl (ldb_sc Sc3 (H.blk (k := 3) rfl) rfl)) ?_
    refine d_q rfl (fun w' H => x_cmp (kd := .i64) (a := (l.getD s default).day) (b := m_.day) (r := decide (((l.getD s default).day) < m_.day)) rfl rfl rfl) ?_
    refine d_nil ?_
    refine W.cond (decide (((l.getD s default).day) < m_.day)) rfl (fun c65z => ?_) (fun c65z => ?_)
    ·replace hM := M.e_t hM c65z
     simp only [decide_eq_true_eq, decide_eq_false_iff_not, beq_iff_eq, bne_iff_ne, beq_eq_false_iff_ne, bne_eq_false_iff_eq, ne_eq, Decidable.not_not] at c65z
     refine W.exit ?_
     refine W.region rfl ?_
     refine s_val (x_ari (a := (s : Int)) (b := 1) (r := (s : Int) + 1) rfl rfl rfl (by omega)) ?_
     refine s_val (x_mv (v := I ((s : Int) + 1)) rfl) ?_
     refine s_nil ?_
     exact ⟨m58z, lt59z, s + 1, l, v_l, _, upds_of _ _ ⟨rfl, rfl, rfl, rfl, rfl, rfl, trivial⟩, M.e_inl hM hN61z, H⟩
    ·replace hM := M.e_f hM c65z
     simp only [decide_eq_true_eq, decide_eq_false_iff_not, beq_iff_eq, bne_iff_ne, beq_eq_false_iff_ne, bne_eq_false_iff_eq, ne_eq, Decidable.not_not] at c65z
     refine W.skip ?_
     refine W.seq ?_
     refine W.seq ?_
     refine W.draw (fun W => St w W [cOwn (α := Line) 34 v_l l, cBlk b_5 [I (n_Marks + 1), v_l] 25, cBlk b_3 [I 0, .slice none 0 0] 25, cBlk b_2 [I m_.mark, I m_.day] 50, cBlk b_1 [I n_Marks, v_n_Lines] 25] R) [(0, true), (1, true), (2, true), (3, true), (4, true), (5, true), (6, true)] mixed (by decide +kernel) rfl ?_
     intro w66z hx_
     replace H : St w w66z [cOwn (α := Line) 34 v_l l, cBlk b_5 [I (n_Marks + 1), v_l] 25, cBlk b_3 [I 0, .slice none 0 0] 25, cBlk b_2 [I m_.mark, I m_.day] 50, cBlk b_1 [I n_Marks, v_n_Lines] 25] R := H.ext hx_
     clear hx_
     refine ⟨(H.pick [0, 1, 2, 3, 4] (by decide) rfl), ?_⟩
     refine d_q rfl (fun w' H => x_mv (v := vat v_l 5 (Int.toNat (s : Int))) rfl) ?_
     refine d_q rfl (fun w' H => x_ncE (p := vat v_l 5 (Int.toNat (s : Int))) rfl (Sl.pl (i := (s : Int)) (ownSl (H.get (k := 0) rfl)) (by omega) (by omega))) ?_
     refine d_q rfl (fun w' H => x_fa (a := vat v_l 5 (Int.toNat (s : Int))) (v := fat (vat v_l 5 (Int.toNat (s : Int))) 0) rfl (fa_pl Fd34_0 Sz3 (Sl.pl (i := (s : Int)) (ownSl (H.get (k := 0) rfl)) (by omega) (by omega)))) ?_
     refine d_q rfl (fun w' H => x_ld (p := fat (vat v_l 5 (Int.toNat (s : Int))) 0) (v := I ((l.getD s default).src)) rfl (ld_sc Sc3 (At.mono (Line_at0 (ownSl (H.get (k := 0) rfl)) (i := (s : Int)) (by omega) (by omega)) (ownLe _ (H.get (k := 0) rfl))))) ?_
     refine d_q rfl (fun w' H => x_fa (a := .pointer (some ⟨b_2, 0, none⟩)) (v := .pointer (some ⟨b_2, 0, none⟩)) rfl (fa_blk (o := 0) Fd50_0 Sz3)) ?_
     refine d_q rfl (fun w' H => x_ld (p := .pointer (some ⟨b_2, 0, none⟩)) (v := I m_.mark) rfl (ldb_sc Sc3 (H.blk (k := 3) rfl) rfl)) ?_
     refine d_q rfl (fun w' H => x_cmp (kd := .i64) (a := (l.getD s default).src) (b := m_.mark) (r := ((l.getD s default).src) == m_.mark) rfl rfl rfl) ?_
     refine d_nil ?_
     refine W.cond (((l.getD s default).src) == m_.mark) rfl (fun c67z => ?_) (fun c67z => ?_)
     ·replace hM := M.e_t hM c67z
      simp only [decide_eq_true_eq, decide_eq_false_iff_not, beq_iff_eq, bne_iff_ne, beq_eq_false_iff_ne, bne_eq_false_iff_eq, ne_eq, Decidable.not_not] at c67z
      refine W.region rfl ?_
      refine s_val (x_mv (v := vat v_l 5 (Int.toNat (s : Int))) rfl) ?_
      refine s_val (x_fa (a := .pointer (some ⟨b_1, 0, none⟩)) (v := .pointer (some ⟨b_1, 0, none⟩)) rfl (fa_blk (o := 0) Fd25_0 Sz3)) ?_
      refine s_val (x_ld (p := .pointer (some ⟨b_1, 0, none⟩)) (v := I n_Marks) rfl (ldb_sc Sc3 (H.blk (k := 4) rfl) rfl)) ?_
      refine s_val (x_ncE (p := vat v_l 5 (Int.toNat (s : Int))) rfl (Sl.pl (i := (s : Int)) (ownSl (H.get (k := 0) rfl)) (by omega) (by omega))) ?_
      refine s_val (x_fa (a := vat v_l 5 (Int.toNat (s : Int))) (v := fat (vat v_l 5 (Int.toNat (s : Int))) 0) rfl (fa_pl Fd34_0 Sz3 (Sl.pl (i := (s : Int)) (ownSl (H.get (k := 0) rfl)) (by omega) (by omega)))) ?_
      refine t_fst (α := Line) (k := 0) (i := (s : Int)) (off := 0) (l := l) (l' := l.set s ({ (l.getD s default) with src := n_Marks })) (val := I n_Marks) (L' := [cOwn (α := Line) 34 v_l (l.set s ({ (l.getD s default) with src := n_Marks })), cBlk b_5 [I (n_Marks + 1), v_l] 25, cBlk b_3 [I 0, .slice none 0 0] 25, cBlk b_2 [I m_.mark, I m_.day] 50, cBlk b_1 [I n_Marks, v_n_Lines] 25]) H rfl Sz3 (by omega) (by omega) (l.getD s default) ({ (l.getD s default) with src := n_Marks }) (getD_some _ (by omega) _) rfl rfl [I n_Marks] rfl rfl rfl rfl rfl rfl rfl ?_
      intro w68z H
      have hls_q69z : (l.set s ({ (l.getD s default) with src := n_Marks })).length = (l).length := List.length_set
      refine s_nil ?_
      refine W.seq ?_
      refine W.draw (fun W => St w W [cOwn (α := Line) 34 v_l (l.set s ({ (l.getD s default) with src := n_Marks })), cBlk b_5 [I (n_Marks + 1), v_l] 25, cBlk b_3 [I 0, .slice none 0 0] 25, cBlk b_2 [I m_.mark, I m_.day] 50, cBlk b_1 [I n_Marks, v_n_Lines] 25] R) [(0, true), (1, true), (2, true), (3, true), (4, true), (5, true), (6, true)] mixed (by decide +kernel) rfl ?_
      intro w70z hx_
      replace H : St w w70z [cOwn (α := Line) 34 v_l (l.set s ({ (l.getD s default) with src := n_Marks })), cBlk b_5 [I (n_Marks + 1), v_l] 25, cBlk b_3 [I 0, .slice none 0 0] 25, cBlk b_2 [I m_.mark, I m_.day] 50, cBlk b_1 [I n_Marks, v_n_Lines] 25] R := H.ext hx_
      clear hx_
      refine ⟨(H.pick [0, 1, 2, 3, 4] (by decide) rfl), ?_⟩
      refine d_q rfl (fun w' H => x_mv (v := vat v_l 5 (Int.toNat (s : Int))) rfl) ?_
      refine d_q rfl (fun w' H => x_ncE (p := vat v_l 5 (Int.toNat (s : Int))) rfl (Sl.pl (i := (s : Int)) (ownSl (H.get (k := 0) rfl)) (by omega) (by omega))) ?_
      refine d_q rfl (fun w' H => x_fa (a := vat v_l 5 (Int.toNat (s : Int))) (v := fat (vat v_l 5 (Int.toNat (s : Int))) 1) rfl (fa_pl Fd34_1 Sz3 (Sl.pl (i := (s : Int)) (ownSl (H.get (k := 0) rfl)) (by omega) (by omega)))) ?_
      refine d_q rfl (fun w' H => x_ld (p := fat (vat v_l 5 (Int.toNat (s : Int))) 1) (v := I (((l.set s ({ (l.getD s default) with src := n_Marks })).getD s default).dst)) rfl (ld_sc Sc3 (At.mono (Line_at1 (ownSl (H.get (k := 0) rfl)) (i := (s : Int)) (by omega) (by omega)) (ownLe _ (H.get (k := 0) rfl))))) ?_
      refine d_q rfl (fun w' H => x_fa (a := .pointer (some ⟨b_2, 0, none⟩)) (v := .pointer (some ⟨b_2, 0, none⟩)) rfl (fa_blk (o := 0) Fd50_0 Sz3)) ?_
      refine d_q rfl (fun w' H => x_ld (p := .pointer (some ⟨b_2, 0, none⟩)) (v := I m_.mark) rfl (ldb_sc Sc3 (H.blk (k := 3) rfl) rfl)) ?_
      refine d_q rfl (fun w' H => x_cmp (kd := .i64) (a := ((l.set s ({ (l.getD s default) with src := n_Marks })).getD s default).dst) (b := m_.mark) (r := (((l.set s ({ (l.getD s default) with src := n_Marks })).getD s default).dst) == m_.mark) rfl rfl rfl) ?_
      refine d_nil ?_
      refine W.cond ((((l.set s ({ (l.getD s default) with src := n_Marks })).getD s default).dst) == m_.mark) rfl (fun c71z => ?_) (fun c71z => ?_)
      ·replace hM := M.e_t hM c71z
       simp only [decide_eq_true_eq, decide_eq_false_iff_not, beq_iff_eq, bne_iff_ne, beq_eq_false_iff_ne, bne_eq_false_iff_eq, ne_eq, Decidable.not_not] at c71z
       refine W.region rfl ?_
       refine s_val (x_mv (v := vat v_l 5 (Int.toNat (s : Int))) rfl) ?_
       refine s_val (x_fa (a := .pointer (some ⟨b_1, 0, none⟩)) (v := .pointer (some ⟨b_1, 0, none⟩)) rfl (fa_blk (o := 0) Fd25_0 Sz3)) ?_
       refine s_val (x_ld (p := .pointer (some ⟨b_1, 0, none⟩)) (v := I n_Marks) rfl (ldb_sc Sc3 (H.blk (k := 4) rfl) rfl)) ?_
       refine s_val (x_ncE (p := vat v_l 5 (Int.toNat (s : Int))) rfl (Sl.pl (i := (s : Int)) (ownSl (H.get (k := 0) rfl)) (by omega) (by omega))) ?_
       refine s_val (x_fa (a := vat v_l 5 (Int.toNat (s : Int))) (v := fat (vat v_l 5 (Int.toNat (s : Int))) 1) rfl (fa_pl Fd34_1 Sz3 (Sl.pl (i := (s : Int)) (ownSl (H.get (k := 0) rfl)) (by omega) (by omega)))) ?_
       refine t_fst (α := Line) (k := 0) (i := (s : Int)) (off := 1) (l := l.set s ({ (l.getD s default) with src := n_Marks })) (l' := (l.set s ({ (l.getD s default) with src := n_Marks })).set s ({ ((l.set s ({ (l.getD s default) with src := n_Marks })).getD s default) with dst := n_Marks })) (val := I n_Marks) (L' := [cOwn (α := Line) 34 v_l ((l.set s ({ (l.getD s default) with src := n_Marks })).set s ({ ((l.set s ({ (l.getD s default) with src := n_Marks })).getD s default) with dst := n_Marks })), cBlk b_5 [I (n_Marks + 1), v_l] 25, cBlk b_3 [I 0, .slice none 0 0] 25, cBlk b_2 [I m_.mark, I m_.day] 50, cBlk b_1 [I n_Marks, v_n_Lines] 25]) H rfl Sz3 (by omega) (by omega) ((l.set s ({ (l.getD s default) with src := n_Marks })).getD s default) ({ ((l.set s ({ (l.getD s default) with src := n_Marks })).getD s default) with dst := n_Marks }) (getD_some _ (by omega) _) rfl rfl [I n_Marks] rfl rfl rfl rfl rfl rfl rfl ?_
       intro w72z H
       have hls_q73z : ((l.set s ({ (l.getD s default) with src := n_Marks })).set s ({ ((l.set s ({ (l.getD s default) with src := n_Marks })).getD s default) with dst := n_Marks })).length = (l.set s ({ (l.getD s default) with src := n_Marks })).length := List.length_set
       refine s_nil ?_
       refine W.region rfl ?_
       refine s_val (x_ari (a := (s : Int)) (b := 1) (r := (s : Int) + 1) rfl rfl rfl (by omega)) ?_
       refine s_val (x_mv (v := I ((s : Int) + 1)) rfl) ?_
       refine s_nil ?_
       exact ⟨m58z, lt59z, s + 1, (l.set s ({ (l.getD s default) with src := n_Marks })).set s ({ ((l.set s ({ (l.getD s default) with src := n_Marks })).getD s default) with dst := n_Marks }), v_l, _, upds_of _ _ ⟨rfl, rfl, rfl, rfl, rfl, rfl, trivial⟩, M.e_inl hM hN61z, H⟩
      ·replace hM := M.e_f hM c71z
       simp only [decide_eq_true_eq, decide_eq_false_iff_not, beq_iff_eq, bne_iff_ne, beq_eq_false_iff_ne, bne_eq_false_iff_eq, ne_eq, Decidable.not_not] at c71z
       refine W.skip ?_
       refine W.region rfl ?_
       refine s_val (x_ari (a := (s : Int)) (b := 1) (r := (s : Int) + 1) rfl rfl rfl (by omega)) ?_
       refine s_val (x_mv (v := I ((s : Int) + 1)) rfl) ?_
       refine s_nil ?_
       exact ⟨m58z, lt59z, s + 1, l.set s ({ (l.getD s default) with src := n_Marks }), v_l, _, upds_of _ _ ⟨rfl, rfl, rfl, rfl, rfl, rfl, trivial⟩, M.e_inl hM hN61z, H⟩
     ·replace hM := M.e_f hM c67z
      simp only [decide_eq_true_eq, decide_eq_false_iff_not, beq_iff_eq, bne_iff_ne, beq_eq_false_iff_ne, bne_eq_false_iff_eq, ne_eq, Decidable.not_not] at c67z
      refine W.skip ?_
      refine W.seq ?_
      refine W.draw (fun W => St w W [cOwn (α := Line) 34 v_l l, cBlk b_5 [I (n_Marks + 1), v_l] 25, cBlk b_3 [I 0, .slice none 0 0] 25, cBlk b_2 [I m_.mark, I m_.day] 50, cBlk b_1 [I n_Marks, v_n_Lines] 25] R) [(0, true), (1, true), (2, true), (3, true), (4, true), (5, true), (6, true)] mixed (by decide +kernel) rfl ?_
      intro w74z hx_
      replace H : St w w74z [cOwn (α := Line) 34 v_l l, cBlk b_5 [I (n_Marks + 1), v_l] 25, cBlk b_3 [I 0, .slice none 0 0] 25, cBlk b_2 [I m_.mark, I m_.day] 50, cBlk b_1 [I n_Marks, v_n_Lines] 25] R := H.ext hx_
      clear hx_
      refine ⟨(H.pick [0, 1, 2, 3, 4] (by decide) rfl), ?_⟩
      refine d_q rfl (fun w' H => x_mv (v := vat v_l 5 (Int.toNat (s : Int))) rfl) ?_
      refine d_q rfl (fun w' H => x_ncE (p := vat v_l 5 (Int.toNat (s : Int))) rfl (Sl.pl (i := (s : Int)) (ownSl (H.get (k := 0) rfl)) (by omega) (by omega))) ?_
      refine d_q rfl (fun w' H => x_fa (a := vat v_l 5 (Int.toNat (s : Int))) (v := fat (vat v_l 5 (Int.toNat (s : Int))) 1) rfl (fa_pl Fd34_1 Sz3 (Sl.pl (i := (s : Int)) (ownSl (H.get (k := 0) rfl)) (by omega) (by omega)))) ?_
      refine d_q rfl (fun w' H => x_ld (p := fat (vat v_l 5 (Int.toNat (s : Int))) 1) (v := I ((l.getD s default).dst)) rfl (ld_sc Sc3 (At.mono (Line_at1 (ownSl (H.get (k := 0) rfl)) (i := (s : Int)) (by omega) (by omega)) (ownLe _ (H.get (k := 0) rfl))))) ?_
      refine d_q rfl (fun w' H => x_fa (a := .pointer (some ⟨b_2, 0, none⟩)) (v := .pointer (some ⟨b_2, 0, none⟩)) rfl (fa_blk (o := 0) Fd50_0 Sz3)) ?_
      refine d_q rfl (fun w' H => x_ld (p := .pointer (some ⟨b_2, 0, none⟩)) (v := I m_.mark) rfl (ldb_sc Sc3 (H.blk (k := 3) rfl) rfl)) ?_
      refine d_q rfl (fun w' H => x_cmp (kd := .i64) (a := (l.getD s default).dst) (b := m_.mark) (r := ((l.getD s default).dst) == m_.mark) rfl rfl rfl) ?_
      refine d_nil ?_
      refine W.cond (((l.getD s default).dst) == m_.mark) rfl (fun c75z => ?_) (fun c75z => ?_)
      ·replace hM := M.e_t hM c75z
       simp only [decide_eq_true_eq, decide_eq_false_iff_not, beq_iff_eq, bne_iff_ne, beq_eq_false_iff_ne, bne_eq_false_iff_eq, ne_eq, Decidable.not_not] at c75z
       refine W.region rfl ?_
       refine s_val (x_mv (v := vat v_l 5 (Int.toNat (s : Int))) rfl) ?_
       refine s_val (x_fa (a := .pointer (some ⟨b_1, 0, none⟩)) (v := .pointer (some ⟨b_1, 0, none⟩)) rfl (fa_blk (o := 0) Fd25_0 Sz3)) ?_
       refine s_val (x_ld (p := .pointer (some ⟨b_1, 0, none⟩)) (v := I n_Marks) rfl (ldb_sc Sc3 (H.blk (k := 4) rfl) rfl)) ?_
       refine s_val (x_ncE (p := vat v_l 5 (Int.toNat (s : Int))) rfl (Sl.pl (i := (s : Int)) (ownSl (H.get (k := 0) rfl)) (by omega) (by omega))) ?_
       refine s_val (x_fa (a := vat v_l 5 (Int.toNat (s : Int))) (v := fat (vat v_l 5 (Int.toNat (s : Int))) 1) rfl (fa_pl Fd34_1 Sz3 (Sl.pl (i := (s : Int)) (ownSl (H.get (k := 0) rfl)) (by omega) (by omega)))) ?_
       refine t_fst (α := Line) (k := 0) (i := (s : Int)) (off := 1) (l := l) (l' := l.set s ({ (l.getD s default) with dst := n_Marks })) (val := I n_Marks) (L' := [cOwn (α := Line) 34 v_l (l.set s ({ (l.getD s default) with dst := n_Marks })), cBlk b_5 [I (n_Marks + 1), v_l] 25, cBlk b_3 [I 0, .slice none 0 0] 25, cBlk b_2 [I m_.mark, I m_.day] 50, cBlk b_1 [I n_Marks, v_n_Lines] 25]) H rfl Sz3 (by omega) (by omega) (l.getD s default) ({ (l.getD s default) with dst := n_Marks }) (getD_some _ (by omega) _) rfl rfl [I n_Marks] rfl rfl rfl rfl rfl rfl rfl ?_
       intro w76z H
       have hls_q77z : (l.set s ({ (l.getD s default) with dst := n_Marks })).length = (l).length := List.length_set
       refine s_nil ?_
       refine W.region rfl ?_
       refine s_val (x_ari (a := (s : Int)) (b := 1) (r := (s : Int) + 1) rfl rfl rfl (by omega)) ?_
       refine s_val (x_mv (v := I ((s : Int) + 1)) rfl) ?_
       refine s_nil ?_
       exact ⟨m58z, lt59z, s + 1, l.set s ({ (l.getD s default) with dst := n_Marks }), v_l, _, upds_of _ _ ⟨rfl, rfl, rfl, rfl, rfl, rfl, trivial⟩, M.e_inl hM hN61z, H⟩
      ·replace hM := M.e_f hM c75z
       simp only [decide_eq_true_eq, decide_eq_false_iff_not, beq_iff_eq, bne_iff_ne, beq_eq_false_iff_ne, bne_eq_false_iff_eq, ne_eq, Decidable.not_not] at c75z
       refine W.skip ?_
       refine W.region rfl ?_
       refine s_val (x_ari (a := (s : Int)) (b := 1) (r := (s : Int) + 1) rfl rfl rfl (by omega)) ?_
       refine s_val (x_mv (v := I ((s : Int) + 1)) rfl) ?_
       refine s_nil ?_
       exact ⟨m58z, lt59z, s + 1, l, v_l, _, upds_of _ _ ⟨rfl, rfl, rfl, rfl, rfl, rfl, trivial⟩, M.e_inl hM hN61z, H⟩
   ·replace hM := M.e_f hM c62z
    simp only [decide_eq_true_eq, decide_eq_false_iff_not, beq_iff_eq, bne_iff_ne, beq_eq_false_iff_ne, bne_eq_false_iff_eq, ne_eq, Decidable.not_not] at c62z
    refine W.exit ?_
    have hX78z := M.e_inr hM hN61z
    subst hX78z
    replace hM := hk54z
    try dsimp only at hM
    refine W.seq ?_
    refine W.region rfl ?_
    refine s_val (x_ld (p := .pointer (some ⟨b_5, 0, none⟩)) (v := .agg #[I (n_Marks + 1), v_l]) rfl (ldb_ag (ds := [I (n_Marks + 1), v_l]) Ag25 Sz25 (H.blk (k := 1) rfl) rfl rfl)) ?_
    refine t_st (k := 2) (b := b_3) (off := 0) (cs := [I 0, .slice none 0 0]) (vs := [I (n_Marks + 1), v_l]) (cs' := [I (n_Marks + 1), v_l]) (v := .agg #[I (n_Marks + 1), v_l]) (L' := [cOwn (α := Line) 34 v_l l, cBlk b_5 [I (n_Marks + 1), v_l] 25, cBlk b_3 [I (n_Marks + 1), v_l] 25, cBlk b_2 [I m_.mark, I m_.day] 50, cBlk b_1 [I n_Marks, v_n_Lines] 25]) H rfl rfl rfl Sz25 rfl rfl rfl (by simp only [List.all_cons, List.all_nil, Bool.true_and, Bool.and_true, Sl.oc (ownSl (H.get (k := 0) rfl))]; try rfl) rfl rfl ?_
    intro w79z H
    refine s_nil ?_
    refine W.ret ?_
    have hb80z := (H.blk (k := 2) rfl)
    have hr_ := M.e_pure hM
    exact ⟨_, (resE_of1 (v := .agg #[I (n_Marks + 1), v_l]) rfl (.cell (v := .agg #[I (n_Marks + 1), v_l]) rfl (run_loadVar_ag (ds := [I (n_Marks + 1), v_l]) Ag25 Sz25 hb80z rfl rfl) <| .nil)), ⟨(n_Marks + 1), l, v_l, hr_, rfl, (H.pick [0] (by decide) rfl)⟩⟩

def m_level_Moves_b2 (n_Marks : Int) (n_Lines : List Line) (s2 : Nat) (r3 : List Int) : (Nat × (List Mv)) -> M ((Nat × (List Mv)) ⊕ ((List Mv) × (List Mv))) := fun (s, l4) =>
  bif decide ((s : Int) < (r3.length : Int)) then (
  M.grd (decide ((s : Int) < (r3.length : Int))) <|
  M.grd (decide ((-9223372036854775808 : Int) <= ((l4.length : Int) - 1)) && decide (((l4.length : Int) - 1) <= (9223372036854775807 : Int))) <|
  M.grd ((!(decide (0 <= ((l4.length : Int) - 1))) || (decide ((0 : Int) <= ((l4.length : Int) - 1)) && decide (((l4.length : Int) - 1) < (l4.length : Int))))) <|
  bif ((decide (0 <= ((l4.length : Int) - 1))) && (decide ((l4.getD (Int.toNat ((l4.length : Int) - 1)) default) = (⟨(s2 : Int), ((l4.getD (Int.toNat ((l4.length : Int) - 1)) default).day : Int)⟩ : Mv)))) then (
  M.pure (.inl (s + 1, l4)))
  else (
  M.bind (m_level_parted n_Marks n_Lines (⟨(s2 : Int), (r3.getD s 0 : Int)⟩ : Mv)) fun (r0, r13) =>
  M.bind (m_level_worked r0 r13) fun (r04, r22, r32) =>
  M.bind (m_level_survey_open r04 r13 r22 r32) fun r4 =>
  bif !r4 then (
  M.grd (decide ((l4.length + ([(⟨(s2 : Int), (r3.getD s 0 : Int)⟩ : Mv)]).length) * 16 <= 140737488355328)) <|
  M.pure (.inl (s + 1, l4 ++ ([(⟨(s2 : Int), (r3.getD s 0 : Int)⟩ : Mv)]))))
  else (
  M.pure (.inl (s + 1, l4)))))
  else (
  M.pure (.inr (l4, l4)))
def m_level_Moves_b3 (n_Marks : Int) (n_Lines : List Line) (r00 : Int) : (Nat × (List Mv)) -> M ((Nat × (List Mv)) ⊕ ((List Mv) × (List Mv))) := fun (s2, l6) =>
  bif decide ((s2 : Int) < n_Marks) then (
  M.bind (m_level_survey_days r00 n_Lines (s2 : Int)) fun r3 =>
  M.bind (M.iter (m_level_Moves_b2 n_Marks n_Lines s2 r3) (0, l6)) fun (l2, l5) =>
  M.grd (decide ((-9223372036854775808 : Int) <= ((s2 : Int) + 1)) && decide (((s2 : Int) + 1) <= (9223372036854775807 : Int))) <|
  M.pure (.inl (s2 + 1, l5)))
  else (
  M.pure (.inr (l6, l6)))
def m_level_Moves (n_Marks : Int) (n_Lines : List Line) : M ((List Mv) × Int) :=
  M.bind (m_level_opened n_Marks n_Lines) fun x_ => match x_ with
  | (.inl r1) => (
  bif r1 != 0 then (
  M.pure (([]), r1))
  else (
  M.fail))
  | (.inr (r00, r02, r03, r12)) => (
  bif r12 != 0 then (
  M.fail)
  else (
  M.bind (m_level_survey_open r00 n_Lines r02 r03) fun r2 =>
  bif !r2 then (
  M.pure (([]), 8))
  else (
  bif n_Marks == 12 then (
  M.pure (([]), 3))
  else (
  M.bind (M.iter (m_level_Moves_b3 n_Marks n_Lines r00) (0, [])) fun (l7, l8) =>
  M.pure (l8, 0)))))
theorem level_Moves_ok {R : List Chunk} {C_n_Lines : Cells} {v_n_Lines : Value} (n_Marks : Int) (n_Lines : List Line) (hC_n_Lines : Reads R C_n_Lines) (hs_n_Lines : Sl C_n_Lines v_n_Lines n_Lines) {r : ((List Mv) × Int)} (hM : (m_level_Moves n_Marks n_Lines).Ends r) (w : World) (H : St w w [] R) : Ret Try.prog 21 #[.agg #[I n_Marks, v_n_Lines]] w fun v w' => ∃ (y0 : List Mv) (y1 : Int) (u0 : Value), (y0, y1) = r /\ v = .tuple #[u0, I y1] /\ St w w' [cOwn (α := Mv) 50 u0 y0] R := by
 refine ret_of_W Try.func21 rfl rfl rfl ?_
 refine W.seq ?_
 refine W.region rfl ?_
 refine t_box (v := .agg #[I n_Marks, v_n_Lines]) (cs := [I n_Marks, v_n_Lines]) H rfl rfl ?_
 intro b_1 w1z H
 refine s_val (x_as (v := .slice none 0 0) rfl) ?_
 refine s_val (x_as (v := I 0) rfl) ?_
 refine s_nil ?_
 refine W.seq ?_
 refine W.region rfl ?_
 refine s_val (x_ld (p := .pointer (some ⟨b_1, 0, none⟩)) (v := .agg #[I n_Marks, v_n_Lines]) rfl (ldb_ag (ds := [I n_Marks, v_n_Lines]) Ag25 Sz25 (H.blk (k := 0) rfl) rfl rfl)) ?_
 obtain ⟨r3z, hx2z, hM⟩ := M.e_bind hM
 refine s_call cf59 [.agg #[I n_Marks, v_n_Lines]] rfl (level_opened_ok n_Marks n_Lines (hC_n_Lines.app _) hs_n_Lines hx2z _ (St.give (T := [cBlk b_1 [I n_Marks, v_n_Lines] 25]) H rfl)) ?_
 rintro vq w4z (⟨r1, hr5z, hvq, H2_⟩ | ⟨r00, r02, r03, r12, nb0_2, hr6z, hvq, H2_, hf7z, hf8z⟩)
 ·subst hr5z
  subst vq
  try dsimp only at hM
  replace H : St w w4z [cBlk b_1 [I n_Marks, v_n_Lines] 25] R := H.back H2_ rfl
  clear H2_
  refine s_val (x_mv (v := .tuple #[.pointer none, I r1]) rfl) ?_
  refine s_val (x_ext (vs := [.pointer none, I r1]) (v := .pointer none) rfl rfl) ?_
  refine s_val (x_ext (vs := [.pointer none, I r1]) (v := I r1) rfl rfl) ?_
  refine s_val (x_as (v := .pointer none) rfl) ?_
  refine s_val (x_as (v := I r1) rfl) ?_
  refine s_nil ?_
  refine W.seq ?_
  refine W.block ?_
  refine W.seq ?_
  refine W.region rfl ?_
  refine s_val (x_mv (v := I r1) rfl) ?_
  refine s_val (x_cmp (kd := .i64) (a := r1) (b := 0) (r := r1 != 0) rfl rfl rfl) ?_
  refine s_val (x_as (v := B (r1 != 0)) rfl) ?_
  refine s_nil ?_
  refine W.cond (r1 != 0) rfl (fun c9z => ?_) (fun c9z => ?_)
  ·replace hM := M.e_t hM c9z
   simp only [decide_eq_true_eq, decide_eq_false_iff_not, beq_iff_eq, bne_iff_ne, beq_eq_false_iff_ne, bne_eq_false_iff_eq, ne_eq, Decidable.not_not] at c9z
   refine W.seq ?_
   refine W.region rfl ?_
   refine s_val (x_mv (v := I r1) rfl) ?_
   refine s_val (x_as (v := .slice none 0 0) rfl) ?_
   refine s_val (x_as (v := I r1) rfl) ?_
   refine s_nil ?_
   refine W.ret ?_
   have hr_ := M.e_pure hM
   replace H : St w w4z [cOwn (α := Mv) 50 (.slice none 0 0) ([]), cBlk b_1 [I n_Marks, v_n_Lines] 25] R := H.nilOwn (α := Mv) 50
   exact ⟨_, resE_tmp2 rfl, ⟨([]), r1, (.slice none 0 0), hr_, rfl, (H.pick [0] (by decide) rfl)⟩⟩
  ·replace hM := M.e_f hM c9z
   exact (M.e_fail hM).elim
 ·subst hr6z
  subst vq
  try dsimp only at hM
  replace H : St w w4z [cBlk nb0_2 (List.flatten [[I r00, v_n_Lines], encF (α := Int) r02, encF (α := Leg) r03]) 120, cBlk b_1 [I n_Marks, v_n_Lines] 25] R := H.back H2_ rfl
  clear H2_
  refine s_val (x_mv (v := .tuple #[.pointer (some ⟨nb0_2, 0, none⟩), I r12]) rfl) ?_
  refine s_val (x_ext (vs := [.pointer (some ⟨nb0_2, 0, none⟩), I r12]) (v := .pointer (some ⟨nb0_2, 0, none⟩)) rfl rfl) ?_
  refine s_val (x_ext (vs := [.pointer (some ⟨nb0_2, 0, none⟩), I r12]) (v := I r12) rfl rfl) ?_
  refine s_val (x_as (v := .pointer (some ⟨nb0_2, 0, none⟩)) rfl) ?_
  refine s_val (x_as (v := I r12) rfl) ?_
  refine s_nil ?_
  refine W.seq ?_
  refine W.block ?_
  refine W.seq ?_
  refine W.region rfl ?_
  refine s_val (x_mv (v := I r12) rfl) ?_
  refine s_val (x_cmp (kd := .i64) (a := r12) (b := 0) (r := r12 != 0) rfl rfl rfl) ?_
  refine s_val (x_as (v := B (r12 != 0)) rfl) ?_
  refine s_nil ?_
  refine W.cond (r12 != 0) rfl (fun c10z => ?_) (fun c10z => ?_)
  ·replace hM := M.e_t hM c10z
   exact (M.e_fail hM).elim
  ·replace hM := M.e_f hM c10z
   simp only [decide_eq_true_eq, decide_eq_false_iff_not, beq_iff_eq, bne_iff_ne, beq_eq_false_iff_ne, bne_eq_false_iff_eq, ne_eq, Decidable.not_not] at c10z
   refine W.seq ?_
   refine W.region rfl ?_
   refine s_val (x_mv (v := .pointer (some ⟨nb0_2, 0, none⟩)) rfl) ?_
   obtain ⟨r12z, hx11z, hM⟩ := M.e_bind hM
   refine s_call cf60 [.pointer (some ⟨nb0_2, 0, none⟩)] rfl (level_survey_open_ok r00 n_Lines r02 r03 (hC_n_Lines.app _) hs_n_Lines hf7z hf8z (Has.here (k := 0) rfl) hx11z _ (St.give (T := [cBlk nb0_2 (List.flatten [[I r00, v_n_Lines], encF (α := Int) r02, encF (α := Leg) r03]) 120, cBlk b_1 [I n_Marks, v_n_Lines] 25]) H rfl)) ?_
   rintro vq w13z ⟨r2, hr14z, hvq, H2_⟩
   subst hr14z
   subst vq
   try dsimp only at hM
   replace H : St w w13z [cBlk nb0_2 (List.flatten [[I r00, v_n_Lines], encF (α := Int) r02, encF (α := Leg) r03]) 120, cBlk b_1 [I n_Marks, v_n_Lines] 25] R := H.back H2_ rfl
   clear H2_
   refine s_val (x_not (b := r2) rfl) ?_
   refine s_val (x_as (v := B (!r2)) rfl) ?_
   refine s_nil ?_
   refine W.cond (!r2) rfl (fun c15z => ?_) (fun c15z => ?_)
   ·replace hM := M.e_t hM c15z
    refine W.seq ?_
    refine W.region rfl ?_
    refine s_val (x_as (v := .slice none 0 0) rfl) ?_
    refine s_val (x_as (v := I 8) rfl) ?_
    refine s_nil ?_
    refine W.ret ?_
    have hr_ := M.e_pure hM
    replace H : St w w13z [cOwn (α := Mv) 50 (.slice none 0 0) ([]), cBlk nb0_2 (List.flatten [[I r00, v_n_Lines], encF (α := Int) r02, encF (α := Leg) r03]) 120, cBlk b_1 [I n_Marks, v_n_Lines] 25] R := H.nilOwn (α := Mv) 50
    exact ⟨_, resE_tmp2 rfl, ⟨([]), 8, (.slice none 0 0), hr_, rfl, (H.pick [0] (by decide) rfl)⟩⟩
   ·replace hM := M.e_f hM c15z
    refine W.seq ?_
    refine W.region rfl ?_
    refine s_val (x_fa (a := .pointer (some ⟨b_1, 0, none⟩)) (v := .pointer (some ⟨b_1, 0, none⟩)) rfl (fa_blk (o := 0) Fd25_0 Sz3)) ?_
    refine s_val (x_ld (p := .pointer (some ⟨b_1, 0, none⟩)) (v := I n_Marks) rfl (ldb_sc Sc3 (H.blk (k := 1) rfl) rfl)) ?_
    refine s_val (x_cmp (kd := .i64) (a := n_Marks) (b := 12) (r := n_Marks == 12) rfl rfl rfl) ?_
    refine s_val (x_as (v := B (n_Marks == 12)) rfl) ?_
    refine s_nil ?_
    refine W.cond (n_Marks == 12) rfl (fun c16z => ?_) (fun c16z => ?_)
    ·replace hM := M.e_t hM c16z
     simp only [decide_eq_true_eq, decide_eq_false_iff_not, beq_iff_eq, bne_iff_ne, beq_eq_false_iff_ne, bne_eq_false_iff_eq, ne_eq, Decidable.not_not] at c16z
     refine W.seq ?_
     refine W.region rfl ?_
     refine s_val (x_as (v := .slice none 0 0) rfl) ?_
     refine s_val (x_as (v := I 3) rfl) ?_
     refine s_nil ?_
     refine W.ret ?_
     have hr_ := M.e_pure hM
     replace H : St w w13z [cOwn (α := Mv) 50 (.slice none 0 0) ([]), cBlk nb0_2 (List.flatten [[I r00, v_n_Lines], encF (α := Int) r02, encF (α := Leg) r03]) 120, cBlk b_1 [I n_Marks, v_n_Lines] 25] R := H.nilOwn (α := Mv) 50
     exact ⟨_, resE_tmp2 rfl, ⟨([]), 3, (.slice none 0 0), hr_, rfl, (H.pick [0] (by decide) rfl)⟩⟩
    ·replace hM := M.e_f hM c16z
     simp only [decide_eq_true_eq, decide_eq_false_iff_not, beq_iff_eq, bne_iff_ne, beq_eq_false_iff_ne, bne_eq_false_iff_eq, ne_eq, Decidable.not_not] at c16z
     refine W.skip ?_
     refine W.seq ?_
     refine W.region rfl ?_
     refine s_val (x_as (v := .slice none 0 0) rfl) ?_
     refine s_nil ?_
     refine W.seq ?_
     refine W.seq ?_
     refine W.region rfl ?_
     refine s_val (x_fa (a := .pointer (some ⟨b_1, 0, none⟩)) (v := .pointer (some ⟨b_1, 0, none⟩)) rfl (fa_blk (o := 0) Fd25_0 Sz3)) ?_
     refine s_val (x_ld (p := .pointer (some ⟨b_1, 0, none⟩)) (v := I n_Marks) rfl (ldb_sc Sc3 (H.blk (k := 1) rfl) rfl)) ?_
     refine s_val (x_mv (v := I 0) rfl) ?_
     refine s_nil ?_
     refine W.block ?_
     replace H : St w w13z [cOwn (α := Mv) 50 (.slice none 0 0) ([]), cBlk nb0_2 (List.flatten [[I r00, v_n_Lines], encF (α := Int) r02, encF (α := Leg) r03]) 120, cBlk b_1 [I n_Marks, v_n_Lines] 25] R := H.nilOwn (α := Mv) 50
     obtain ⟨ex17z, hi18z, hk19z⟩ := M.e_bind hM
     obtain ⟨m0_, hi18z⟩ := M.e_iter hi18z
     refine W.loop (fun m σ W => ∃ (s2 : Nat) (l6 : List Mv) (v_l6 : Value) (ρ : Env), σ = upds ρ [(1, .pointer (some ⟨b_1, 0, none⟩)), (4, .pointer (some ⟨nb0_2, 0, none⟩)), (6, v_l6), (30, I n_Marks), (31, I (s2 : Int))] /\ M.iterN (m_level_Moves_b3 n_Marks n_Lines r00) m (s2, l6) = some ex17z /\ St w W [cOwn (α := Mv) 50 v_l6 l6, cBlk nb0_2 (List.flatten [[I r00, v_n_Lines], encF (α := Int) r02, encF (α := Leg) r03]) 120, cBlk b_1 [I n_Marks, v_n_Lines] 25] R) ?_ ?_
     ·exact ⟨_, 0, [], (.slice none 0 0), _, upds_of _ _ ⟨rfl, rfl, rfl, rfl, rfl, trivial⟩, hi18z, H⟩
     ·rintro m22z σ w20z ⟨s2, l6, v_l6, ρ, rfl, hI21z, H⟩
      obtain ⟨m23z, lt24z, x25z, hM, hN26z⟩ := M.e_iterN hI21z
      simp only [m_level_Moves_b3] at hM
      clear hI21z
      refine W.seq ?_
      refine W.region rfl ?_
      refine s_val (x_cmp (kd := .i64) (a := (s2 : Int)) (b := n_Marks) (r := decide ((s2 : Int) < n_Marks)) rfl rfl rfl) ?_
      refine s_nil ?_
      refine W.seq ?_
      refine W.cond (decide ((s2 : Int) < n_Marks)) rfl (fun c27z => ?_) (fun c27z => ?_)
      ·replace hM := M.e_t hM c27z
       simp only [decide_eq_true_eq, decide_eq_false_iff_not, beq_iff_eq, bne_iff_ne, beq_eq_false_iff_ne, bne_eq_false_iff_eq, ne_eq, Decidable.not_not] at c27z
       refine W.skip ?_
       refine W.seq ?_
       refine W.block ?_
       refine W.seq ?_
       refine W.region rfl ?_
       refine s_val (x_mv (v := I (s2 : Int)) rfl) ?_
       refine s_val (x_as (v := I (s2 : Int)) rfl) ?_
       refine s_nil ?_
       refine W.seq ?_
       refine W.region rfl ?_
       refine s_val (x_mv (v := .pointer (some ⟨nb0_2, 0, none⟩)) rfl) ?_
       refine s_val (x_mv (v := I (s2 : Int)) rfl) ?_
       obtain ⟨r29z, hx28z, hM⟩ := M.e_bind hM
       refine s_call cf61 [.pointer (some ⟨nb0_2, 0, none⟩), I (s2 : Int)] rfl (level_survey_days_ok r00 n_Lines (s2 : Int) (hC_n_Lines.app _) hs_n_Lines (Fld.here (k := 1) rfl rfl) hx28z _ (St.give (T := [cOwn (α := Mv) 50 v_l6 l6, cBlk nb0_2 (List.flatten [[I r00, v_n_Lines], encF (α := Int) r02, encF (α := Leg) r03]) 120, cBlk b_1 [I n_Marks, v_n_Lines] 25]) H rfl)) ?_
       rintro vq w30z ⟨r3, u0_3, hr31z, hvq, H2_⟩
       subst hr31z
       subst vq
       try dsimp only at hM
       replace H : St w w30z [cOwn (α := Int) 3 u0_3 r3, cOwn (α := Mv) 50 v_l6 l6, cBlk nb0_2 (List.flatten [[I r00, v_n_Lines], encF (α := Int) r02, encF (α := Leg) r03]) 120, cBlk b_1 [I n_Marks, v_n_Lines] 25] R := H.back H2_ rfl
       clear H2_
       have hl32z := ((ownSl (H.get (k := 0) rfl))).len_le
       refine s_val (x_lenS T26.und rfl (ownSl (H.get (k := 0) rfl))) ?_
       refine s_val (x_mv (v := I 0) rfl) ?_
       refine s_nil ?_
       refine W.block ?_
       obtain ⟨ex33z, hi34z, hk35z⟩ := M.e_bind hM
       obtain ⟨m0_, hi34z⟩ := M.e_iter hi34z
       refine W.loop (fun m σ W => ∃ (s : Nat) (l4 : List Mv) (v_l4 : Value) (ρ : Env), σ = upds ρ [(1, .pointer (some ⟨b_1, 0, none⟩)), (4, .pointer (some ⟨nb0_2, 0, none⟩)), (6, v_l4), (7, I (s2 : Int)), (30, I n_Marks), (31, I (s2 : Int)), (36, u0_3), (37, I (r3.length : Int)), (38, I (s : Int))] /\ M.iterN (m_level_Moves_b2 n_Marks n_Lines s2 r3) m (s, l4) = some ex33z /\ St w W [cOwn (α := Int) 3 u0_3 r3, cOwn (α := Mv) 50 v_l4 l4, cBlk nb0_2 (List.flatten [[I r00, v_n_Lines], encF (α := Int) r02, encF (α := Leg) r03]) 120, cBlk b_1 [I n_Marks, v_n_Lines] 25] R) ?_ ?_
       ·exact ⟨_, 0, l6, v_l6, _, upds_of _ _ ⟨rfl, rfl, rfl, rfl, rfl, rfl, rfl, rfl, rfl, trivial⟩, hi34z, H⟩
       ·rintro m38z σ w36z ⟨s, l4, v_l4, ρ, rfl, hI37z, H⟩
        obtain ⟨m39z, lt40z, x41z, hM, hN42z⟩ := M.e_iterN hI37z
        simp only [m_level_Moves_b2] at hM
        clear hI37z
        refine W.seq ?_
        refine W.region rfl ?_
        refine s_val (x_cmp (kd := .i64) (a := (s : Int)) (b := (r3.length : Int)) (r := decide ((s : Int) < (r3.length : Int))) rfl rfl rfl) ?_
        refine s_nil ?_
        refine W.seq ?_
        refine W.cond (decide ((s : Int) < (r3.length : Int))) rfl (fun c43z => ?_) (fun c43z => ?_)
        ·replace hM := M.e_t hM c43z
         simp only [decide_eq_true_eq, decide_eq_false_iff_not, beq_iff_eq, bne_iff_ne, beq_eq_false_iff_ne, bne_eq_false_iff_eq, ne_eq, Decidable.not_not] at c43z
         refine W.skip ?_
         refine W.seq ?_
         refine W.block ?_
         refine W.seq ?_
         refine W.region rfl ?_
         obtain ⟨sd44z, hM⟩ := M.e_grd hM
         simp only [Bool.and_eq_true, decide_eq_true_eq] at sd44z
         refine s_val (x_ix (a := u0_3) (b := I (s : Int)) (v := vat u0_3 1 (Int.toNat (s : Int))) rfl rfl (Sl.ix (α := Int) T26.und T26.size (ownSl (H.get (k := 0) rfl)) (by omega) (by omega))) ?_
         refine s_val (x_ld (p := vat u0_3 1 (Int.toNat (s : Int))) (v := I (r3.getD s 0)) rfl (ld_sc Sc3 (At.mono (Int_at (ownSl (H.get (k := 0) rfl)) (i := (s : Int)) (by omega) (by omega)) (ownLe _ (H.get (k := 0) rfl))))) ?_
         refine s_val (x_as (v := I (r3.getD s 0)) rfl) ?_
         refine s_nil ?_
         refine W.seq ?_
         refine W.region rfl ?_
         refine s_val (x_mv (v := I (s2 : Int)) rfl) ?_
         refine s_val (x_mv (v := I (r3.getD s 0)) rfl) ?_
         refine s_val (x_bld (ps := [(0, I (s2 : Int)), (1, I (r3.getD s 0))]) (zs := [I 0, I 0]) (L' := [I (s2 : Int), I (r3.getD s 0)]) rfl Try.underlying50 Al50 rfl (Bd50 Try.underlying50) (.cons (cs := [I (s2 : Int)]) rfl rfl rfl rfl rfl <| .cons (cs := [I (r3.getD s 0)]) rfl rfl rfl rfl rfl <| .nil)) ?_
         refine t_alloc (cs := [I 0, I 0]) H Al50 rfl ?_
         intro b_4 w45z H
         refine t_st (k := 0) (b := b_4) (off := 0) (cs := [I 0, I 0]) (vs := [I (s2 : Int), I (r3.getD s 0)]) (cs' := [I (s2 : Int), I (r3.getD s 0)]) (v := .agg #[I (s2 : Int), I (r3.getD s 0)]) (L' := [cBlk b_4 [I (s2 : Int), I (r3.getD s 0)] 50, cOwn (α := Int) 3 u0_3 r3, cOwn (α := Mv) 50 v_l4 l4, cBlk nb0_2 (List.flatten [[I r00, v_n_Lines], encF (α := Int) r02, encF (α := Leg) r03]) 120, cBlk b_1 [I n_Marks, v_n_Lines] 25]) H rfl rfl rfl Sz50 rfl rfl rfl rfl rfl rfl ?_
         intro w46z H
         refine s_nil ?_
         refine W.seq ?_
         refine W.seq ?_
         refine W.region rfl ?_
         refine s_val (x_mv (v := v_l4) rfl) ?_
         have hl47z := ((ownSl (H.get (k := 2) rfl))).len_le
         refine s_val (x_lenS T46.und rfl (ownSl (H.get (k := 2) rfl))) ?_
         obtain ⟨sd48z, hM⟩ := M.e_grd hM
         simp only [Bool.and_eq_true, decide_eq_true_eq] at sd48z
         refine s_val (x_ari (a := (l4.length : Int)) (b := 1) (r := (l4.length : Int) - 1) rfl rfl rfl (by omega)) ?_
         refine s_val (x_as (v := I ((l4.length : Int) - 1)) rfl) ?_
         refine s_nil ?_
         refine W.seq ?_
         refine W.draw (fun W => St w W [cBlk b_4 [I (s2 : Int), I (r3.getD s 0)] 50, cOwn (α := Int) 3 u0_3 r3, cOwn (α := Mv) 50 v_l4 l4, cBlk nb0_2 (List.flatten [[I r00, v_n_Lines], encF (α := Int) r02, encF (α := Leg) r03]) 120, cBlk b_1 [I n_Marks, v_n_Lines] 25] R) [(0, true), (1, true), (2, true), (3, true), (4, true), (5, true), (6, true), (7, true), (8, true), (9, true), (10, true), (11, true), (12, true), (13, true), (14, true), (15, true)] mixed (by decide +kernel) rfl ?_
         intro w49z hx_
         replace H : St w w49z [cBlk b_4 [I (s2 : Int), I (r3.getD s 0)] 50, cOwn (α := Int) 3 u0_3 r3, cOwn (α := Mv) 50 v_l4 l4, cBlk nb0_2 (List.flatten [[I r00, v_n_Lines], encF (α := Int) r02, encF (α := Leg) r03]) 120, cBlk b_1 [I n_Marks, v_n_Lines] 25] R := H.ext hx_
         clear hx_
         refine ⟨(H.pick [0, 1, 2, 3, 4] (by decide) rfl), ?_⟩
         refine d_q rfl (fun w' H => x_mv (v := I ((l4.length : Int) - 1)) rfl) ?_
         refine d_q rfl (fun w' H => x_cmp (kd := .i64) (a := (l4.length : Int) - 1) (b := 0) (r := decide (0 <= ((l4.length : Int) - 1))) rfl rfl rfl) ?_
         refine d_q rfl (fun w' H => x_mv (v := B (decide (0 <= ((l4.length : Int) - 1)))) rfl) ?_
         refine d_qg (decide (0 <= ((l4.length : Int) - 1))) rfl (gy_t rfl) (fun hg => (fun w' H => x_mv (v := v_l4) rfl)) ?_
         refine d_qg (decide (0 <= ((l4.length : Int) - 1))) rfl (gy_t rfl) (fun hg => (fun w' H => x_mv (v := I ((l4.length : Int) - 1)) rfl)) ?_
         obtain ⟨sd50z, hM⟩ := M.e_grd hM
         replace sd50z := M.imp_of sd50z
         simp only [Bool.and_eq_true, decide_eq_true_eq] at sd50z
         refine d_qg (decide (0 <= ((l4.length : Int) - 1))) rfl (gy_t rfl) (fun hg => (fun w' H => x_ix (a := v_l4) (b := I ((l4.length : Int) - 1)) (v := vat v_l4 2 (Int.toNat ((l4.length : Int) - 1))) (gd_of (c := decide (0 <= ((l4.length : Int) - 1))) hg (v_l4)) (gd_of (c := decide (0 <= ((l4.length : Int) - 1))) hg (I ((l4.length : Int) - 1))) (Sl.ix (α := Mv) T46.und T46.size (ownSl (H.get (k := 2) rfl)) (by have h1_ := sd50z.resolve_left (by rw [hg]; decide); first | exact h1_ | exact h1_.1 | exact h1_.2 | omega | (have hx_ := hg; simp at hx_; omega)) (by have h1_ := sd50z.resolve_left (by rw [hg]; decide); first | exact h1_ | exact h1_.1 | exact h1_.2 | omega | (have hx_ := hg; simp at hx_; omega))))) ?_
         refine d_qg (decide (0 <= ((l4.length : Int) - 1))) rfl (gy_t rfl) (fun hg => (fun w' H => x_ld (p := vat v_l4 2 (Int.toNat ((l4.length : Int) - 1))) (v := .agg #[I ((l4.getD (Int.toNat ((l4.length : Int) - 1)) default).mark), I ((l4.getD (Int.toNat ((l4.length : Int) - 1)) default).day)]) (gd_of (c := decide (0 <= ((l4.length : Int) - 1))) hg (vat v_l4 2 (Int.toNat ((l4.length : Int) - 1)))) (ld_ag Ag50 Sz50 (At.mono (Mv_atA (ownSl (H.get (k := 2) rfl)) (i := (l4.length : Int) - 1) (by have h1_ := sd50z.resolve_left (by rw [hg]; decide); first | exact h1_ | exact h1_.1 | exact h1_.2 | omega | (have hx_ := hg; simp at hx_; omega)) (by have h1_ := sd50z.resolve_left (by rw [hg]; decide); first | exact h1_ | exact h1_.1 | exact h1_.2 | omega | (have hx_ := hg; simp at hx_; omega))) (ownLe _ (H.get (k := 2) rfl)))))) ?_
         refine d_qg (decide (0 <= ((l4.length : Int) - 1))) rfl (gy_t rfl) (fun hg => (fun w' H => x_mv (v := I (s2 : Int)) rfl)) ?_
         refine d_qg (decide (0 <= ((l4.length : Int) - 1))) rfl (gy_t rfl) (fun hg => (fun w' H => x_mv (v := v_l4) rfl)) ?_
         refine d_qg (decide (0 <= ((l4.length : Int) - 1))) rfl (gy_t rfl) (fun hg => (fun w' H => x_mv (v := I ((l4.length : Int) - 1)) rfl)) ?_
         refine d_qg (decide (0 <= ((l4.length : Int) - 1))) rfl (gy_t rfl) (fun hg => (fun w' H => x_ix (a := v_l4) (b := I ((l4.length : Int) - 1)) (v := vat v_l4 2 (Int.toNat ((l4.length : Int) - 1))) (gd_of (c := decide (0 <= ((l4.length : Int) - 1))) hg (v_l4)) (gd_of (c := decide (0 <= ((l4.length : Int) - 1))) hg (I ((l4.length : Int) - 1))) (Sl.ix (α := Mv) T46.und T46.size (ownSl (H.get (k := 2) rfl)) (by have h1_ := sd50z.resolve_left (by rw [hg]; decide); first | exact h1_ | exact h1_.1 | exact h1_.2 | omega | (have hx_ := hg; simp at hx_; omega)) (by have h1_ := sd50z.resolve_left (by rw [hg]; decide); first | exact h1_ | exact h1_.1 | exact h1_.2 | omega | (have hx_ := hg; simp at hx_; omega))))) ?_
         refine d_qg (decide (0 <= ((l4.length : Int) - 1))) rfl (gy_t rfl) (fun hg => (fun w' H => x_fa (a := vat v_l4 2 (Int.toNat ((l4.length : Int) - 1))) (v := fat (vat v_l4 2 (Int.toNat ((l4.length : Int) - 1))) 1) (gd_of (c := decide (0 <= ((l4.length : Int) - 1))) hg (vat v_l4 2 (Int.toNat ((l4.length : Int) - 1)))) (fa_pl Fd50_1 Sz3 (Sl.pl (i := (l4.length : Int) - 1) (ownSl (H.get (k := 2) rfl)) (by have h1_ := sd50z.resolve_left (by rw [hg]; decide); first | exact h1_ | exact h1_.1 | exact h1_.2 | omega | (have hx_ := hg; simp at hx_; omega)) (by have h1_ := sd50z.resolve_left (by rw [hg]; decide); first | exact h1_ | exact h1_.1 | exact h1_.2 | omega | (have hx_ := hg; simp at hx_; omega)))))) ?_
         refine d_qg (decide (0 <= ((l4.length : Int) - 1))) rfl (gy_t rfl) (fun hg => (fun w' H => x_ld (p := fat (vat v_l4 2 (Int.toNat ((l4.length : Int) - 1))) 1) (v := I ((l4.getD (Int.toNat ((l4.length : Int) - 1)) default).day)) (gd_of (c := decide (0 <= ((l4.length : Int) - 1))) hg (fat (vat v_l4 2 (Int.toNat ((l4.length : Int) - 1))) 1)) (ld_sc Sc3 (At.mono (Mv_at1 (ownSl (H.get (k := 2) rfl)) (i := (l4.length : Int) - 1) (by have h1_ := sd50z.resolve_left (by rw [hg]; decide); first | exact h1_ | exact h1_.1 | exact h1_.2 | omega | (have hx_ := hg; simp at hx_; omega)) (by have h1_ := sd50z.resolve_left (by rw [hg]; decide); first | exact h1_ | exact h1_.1 | exact h1_.2 | omega | (have hx_ := hg; simp at hx_; omega))) (ownLe _ (H.get (k := 2) rfl)))))) ?_
         refine d_qg (decide (0 <= ((l4.length : Int) - 1))) rfl (gy_t rfl) (fun hg => (fun w' H => x_bld (ps := [(0, I (s2 : Int)), (1, I ((l4.getD (Int.toNat ((l4.length : Int) - 1)) default).day))]) (zs := [I 0, I 0]) (L' := [I (s2 : Int), I ((l4.getD (Int.toNat ((l4.length : Int) - 1)) default).day)]) (by exact prs2 (gd_of (c := decide (0 <= ((l4.length : Int) - 1))) hg (I (s2 : Int))) (gd_of (c := decide (0 <= ((l4.length : Int) - 1))) hg (I ((l4.getD (Int.toNat ((l4.length : Int) - 1)) default).day)))) Try.underlying50 Al50 rfl (Bd50 Try.underlying50) (.cons (cs := [I (s2 : Int)]) rfl rfl rfl rfl rfl <| .cons (cs := [I ((l4.getD (Int.toNat ((l4.length : Int) - 1)) default).day)]) rfl rfl rfl rfl rfl <| .nil))) ?_
         refine d_qg (decide (0 <= ((l4.length : Int) - 1))) rfl (gy_t rfl) (fun hg => (fun w' H => x_eqS (eqT50 (l4.getD (Int.toNat ((l4.length : Int) - 1)) default) (⟨(s2 : Int), ((l4.getD (Int.toNat ((l4.length : Int) - 1)) default).day : Int)⟩ : Mv) _) gdT50 (gd_of (c := decide (0 <= ((l4.length : Int) - 1))) hg (.agg #[I ((l4.getD (Int.toNat ((l4.length : Int) - 1)) default).mark), I ((l4.getD (Int.toNat ((l4.length : Int) - 1)) default).day)])) (gd_of (c := decide (0 <= ((l4.length : Int) - 1))) hg (.agg #[I (s2 : Int), I ((l4.getD (Int.toNat ((l4.length : Int) - 1)) default).day)])))) ?_
         refine d_q rfl (fun w' H => x_pand (b := decide (0 <= ((l4.length : Int) - 1))) (r := decide ((l4.getD (Int.toNat ((l4.length : Int) - 1)) default) = (⟨(s2 : Int), ((l4.getD (Int.toNat ((l4.length : Int) - 1)) default).day : Int)⟩ : Mv))) rfl (fun hb => gd_of (c := decide (0 <= ((l4.length : Int) - 1))) (by first | exact hb | (rw [hb]; rfl) | simp_all) (B (decide ((l4.getD (Int.toNat ((l4.length : Int) - 1)) default) = (⟨(s2 : Int), ((l4.getD (Int.toNat ((l4.length : Int) - 1)) default).day : Int)⟩ : Mv))))) rfl) ?_
         refine d_nil ?_
         refine W.cond ((decide (0 <= ((l4.length : Int) - 1))) && (decide ((l4.getD (Int.toNat ((l4.length : Int) - 1)) default) = (⟨(s2 : Int), ((l4.getD (Int.toNat ((l4.length : Int) - 1)) default).day : Int)⟩ : Mv)))) rfl (fun c51z => ?_) (fun c51z => ?_)
         ·replace hM := M.e_t hM c51z
          refine W.exit ?_
          refine W.region rfl ?_
          refine s_val (x_ari (a := (s : Int)) (b := 1) (r := (s : Int) + 1) rfl rfl rfl (by omega)) ?_
          refine s_val (x_mv (v := I ((s : Int) + 1)) rfl) ?_
          refine s_nil ?_
          exact ⟨m39z, lt40z, s + 1, l4, v_l4, _, upds_of _ _ ⟨rfl, rfl, rfl, rfl, rfl, rfl, rfl, rfl, rfl, trivial⟩, M.e_inl hM hN42z, (H.pick [1, 2, 3, 4] (by decide) rfl)⟩
         ·replace hM := M.e_f hM c51z
          refine W.skip ?_
          refine W.seq ?_
          refine W.region rfl ?_
          refine s_val (x_ld (p := .pointer (some ⟨b_1, 0, none⟩)) (v := .agg #[I n_Marks, v_n_Lines]) rfl (ldb_ag (ds := [I n_Marks, v_n_Lines]) Ag25 Sz25 (H.blk (k := 4) rfl) rfl rfl)) ?_
          refine s_val (x_ld (p := .pointer (some ⟨b_4, 0, none⟩)) (v := .agg #[I (s2 : Int), I (r3.getD s 0)]) rfl (ldb_ag (ds := [I (s2 : Int), I (r3.getD s 0)]) Ag50 Sz50 (H.blk (k := 0) rfl) rfl rfl)) ?_
          obtain ⟨r53z, hx52z, hM⟩ := M.e_bind hM
          refine s_call cf63 [.agg #[I n_Marks, v_n_Lines], .agg #[I (s2 : Int), I (r3.getD s 0)]] rfl (level_parted_ok n_Marks n_Lines (⟨(s2 : Int), (r3.getD s 0 : Int)⟩ : Mv) (hC_n_Lines.app _) hs_n_Lines hx52z _ (St.give (T := [cBlk b_4 [I (s2 : Int), I (r3.getD s 0)] 50, cOwn (α := Int) 3 u0_3 r3, cOwn (α := Mv) 50 v_l4 l4, cBlk nb0_2 (List.flatten [[I r00, v_n_Lines], encF (α := Int) r02, encF (α := Leg) r03]) 120, cBlk b_1 [I n_Marks, v_n_Lines] 25]) H rfl)) ?_
          rintro vq w54z ⟨r0, r13, u0_5, hr55z, hvq, H2_⟩
          subst hr55z
          subst vq
          try dsimp only at hM
          replace H : St w w54z [cOwn (α := Line) 34 u0_5 r13, cBlk b_4 [I (s2 : Int), I (r3.getD s 0)] 50, cOwn (α := Int) 3 u0_3 r3, cOwn (α := Mv) 50 v_l4 l4, cBlk nb0_2 (List.flatten [[I r00, v_n_Lines], encF (α := Int) r02, encF (α := Leg) r03]) 120, cBlk b_1 [I n_Marks, v_n_Lines] 25] R := H.back H2_ rfl
          clear H2_
          obtain ⟨r57z, hx56z, hM⟩ := M.e_bind hM
          refine s_call cf62 [.agg #[I r0, u0_5]] rfl (level_worked_ok r0 r13 (Reads.of (k := 0) rfl ownLe) (ownSl (H.get (k := 0) rfl)) hx56z _ (St.give (T := [cOwn (α := Line) 34 u0_5 r13, cBlk b_4 [I (s2 : Int), I (r3.getD s 0)] 50, cOwn (α := Int) 3 u0_3 r3, cOwn (α := Mv) 50 v_l4 l4, cBlk nb0_2 (List.flatten [[I r00, v_n_Lines], encF (α := Int) r02, encF (α := Leg) r03]) 120, cBlk b_1 [I n_Marks, v_n_Lines] 25]) H rfl)) ?_
          rintro vq w58z ⟨r04, r22, r32, nb0_6, hr59z, hvq, H2_, hf60z, hf61z⟩
          subst hr59z
          subst vq
          try dsimp only at hM
          replace H : St w w58z [cBlk nb0_6 (List.flatten [[I r04, u0_5], encF (α := Int) r22, encF (α := Leg) r32]) 120, cOwn (α := Line) 34 u0_5 r13, cBlk b_4 [I (s2 : Int), I (r3.getD s 0)] 50, cOwn (α := Int) 3 u0_3 r3, cOwn (α := Mv) 50 v_l4 l4, cBlk nb0_2 (List.flatten [[I r00, v_n_Lines], encF (α := Int) r02, encF (α := Leg) r03]) 120, cBlk b_1 [I n_Marks, v_n_Lines] 25] R := H.back H2_ rfl
          clear H2_
          obtain ⟨r63z, hx62z, hM⟩ := M.e_bind hM
          refine s_call cf60 [.pointer (some ⟨nb0_6, 0, none⟩)] rfl (level_survey_open_ok r04 r13 r22 r32 (Reads.of (k := 1) rfl ownLe) (ownSl (H.get (k := 1) rfl)) hf60z hf61z (Has.here (k := 0) rfl) hx62z _ (St.give (T := [cBlk nb0_6 (List.flatten [[I r04, u0_5], encF (α := Int) r22, encF (α := Leg) r32]) 120, cOwn (α := Line) 34 u0_5 r13, cBlk b_4 [I (s2 : Int), I (r3.getD s 0)] 50, cOwn (α := Int) 3 u0_3 r3, cOwn (α := Mv) 50 v_l4 l4, cBlk nb0_2 (List.flatten [[I r00, v_n_Lines], encF (α := Int) r02, encF (α := Leg) r03]) 120, cBlk b_1 [I n_Marks, v_n_Lines] 25]) H rfl)) ?_
          rintro vq w64z ⟨r4, hr65z, hvq, H2_⟩
          subst hr65z
          subst vq
          try dsimp only at hM
          replace H : St w w64z [cBlk nb0_6 (List.flatten [[I r04, u0_5], encF (α := Int) r22, encF (α := Leg) r32]) 120, cOwn (α := Line) 34 u0_5 r13, cBlk b_4 [I (s2 : Int), I (r3.getD s 0)] 50, cOwn (α := Int) 3 u0_3 r3, cOwn (α := Mv) 50 v_l4 l4, cBlk nb0_2 (List.flatten [[I r00, v_n_Lines], encF (α := Int) r02, encF (α := Leg) r03]) 120, cBlk b_1 [I n_Marks, v_n_Lines] 25] R := H.back H2_ rfl
          clear H2_
          refine s_val (x_not (b := r4) rfl) ?_
          refine s_nil ?_
          refine W.cond (!r4) rfl (fun c66z => ?_) (fun c66z => ?_)
          ·replace hM := M.e_t hM c66z
           refine W.region rfl ?_
           refine s_val (x_mv (v := v_l4) rfl) ?_
           refine s_val (x_ld (p := .pointer (some ⟨b_4, 0, none⟩)) (v := .agg #[I (s2 : Int), I (r3.getD s 0)]) rfl (ldb_ag (ds := [I (s2 : Int), I (r3.getD s 0)]) Ag50 Sz50 (H.blk (k := 2) rfl) rfl rfl)) ?_
           refine t_bs (α := Mv) T46 [.agg #[I (s2 : Int), I (r3.getD s 0)]] [(⟨(s2 : Int), (r3.getD s 0 : Int)⟩ : Mv)] H rfl (.cons rfl (Flat.rep_enc _ (⟨(s2 : Int), (r3.getD s 0 : Int)⟩ : Mv)) <| .nil) rfl rfl rfl ?_
           intro v67z w68z H
           obtain ⟨sd69z, hM⟩ := M.e_grd hM
           simp only [Bool.and_eq_true, decide_eq_true_eq] at sd69z
           refine t_app (α := Mv) (k := 5) (l := l4) (l2 := [(⟨(s2 : Int), (r3.getD s 0 : Int)⟩ : Mv)]) (l' := l4 ++ ([(⟨(s2 : Int), (r3.getD s 0 : Int)⟩ : Mv)])) (vy := v67z) T46 rfl H rfl rfl rfl (ownSl (H.get (k := 0) rfl)) (ownLe _ (H.get (k := 0) rfl)) (rfl) (by first | omega | (simp only [List.length_nil] at *; omega)) ?_
           intro v70z w71z H
           replace H : St w w71z [cOwn (α := Mv) 50 v67z ([(⟨(s2 : Int), (r3.getD s 0 : Int)⟩ : Mv)]), cBlk nb0_6 (List.flatten [[I r04, u0_5], encF (α := Int) r22, encF (α := Leg) r32]) 120, cOwn (α := Line) 34 u0_5 r13, cBlk b_4 [I (s2 : Int), I (r3.getD s 0)] 50, cOwn (α := Int) 3 u0_3 r3, cOwn (α := Mv) 50 v70z (l4 ++ ([(⟨(s2 : Int), (r3.getD s 0 : Int)⟩ : Mv)])), cBlk nb0_2 (List.flatten [[I r00, v_n_Lines], encF (α := Int) r02, encF (α := Leg) r03]) 120, cBlk b_1 [I n_Marks, v_n_Lines] 25] R := H
           refine s_val (x_as (v := v70z) rfl) ?_
           refine s_nil ?_
           refine W.region rfl ?_
           refine s_val (x_ari (a := (s : Int)) (b := 1) (r := (s : Int) + 1) rfl rfl rfl (by omega)) ?_
           refine s_val (x_mv (v := I ((s : Int) + 1)) rfl) ?_
           refine s_nil ?_
           exact ⟨m39z, lt40z, s + 1, l4 ++ ([(⟨(s2 : Int), (r3.getD s 0 : Int)⟩ : Mv)]), v70z, _, upds_of _ _ ⟨rfl, rfl, rfl, rfl, rfl, rfl, rfl, rfl, rfl, trivial⟩, M.e_inl hM hN42z, (H.pick [4, 5, 6, 7] (by decide) rfl)⟩
          ·replace hM := M.e_f hM c66z
           refine W.skip ?_
           refine W.region rfl ?_
           refine s_val (x_ari (a := (s : Int)) (b := 1) (r := (s : Int) + 1) rfl rfl rfl (by omega)) ?_
           refine s_val (x_mv (v := I ((s : Int) + 1)) rfl) ?_
           refine s_nil ?_
           exact ⟨m39z, lt40z, s + 1, l4, v_l4, _, upds_of _ _ ⟨rfl, rfl, rfl, rfl, rfl, rfl, rfl, rfl, rfl, trivial⟩, M.e_inl hM hN42z, (H.pick [3, 4, 5, 6] (by decide) rfl)⟩
        ·replace hM := M.e_f hM c43z
         simp only [decide_eq_true_eq, decide_eq_false_iff_not, beq_iff_eq, bne_iff_ne, beq_eq_false_iff_ne, bne_eq_false_iff_eq, ne_eq, Decidable.not_not] at c43z
         refine W.exit ?_
         have hX72z := M.e_inr hM hN42z
         subst hX72z
         replace hM := hk35z
         try dsimp only at hM
         refine W.region rfl ?_
         obtain ⟨sd73z, hM⟩ := M.e_grd hM
         simp only [Bool.and_eq_true, decide_eq_true_eq] at sd73z
         refine s_val (x_ari (a := (s2 : Int)) (b := 1) (r := (s2 : Int) + 1) rfl rfl rfl (by omega)) ?_
         refine s_val (x_mv (v := I ((s2 : Int) + 1)) rfl) ?_
         refine s_nil ?_
         exact ⟨m23z, lt24z, s2 + 1, l4, v_l4, _, upds_of _ _ ⟨rfl, rfl, rfl, rfl, rfl, trivial⟩, M.e_inl hM hN26z, (H.pick [1, 2, 3] (by decide) rfl)⟩
      ·replace hM := M.e_f hM c27z
       simp only [decide_eq_true_eq, decide_eq_false_iff_not, beq_iff_eq, bne_iff_ne, beq_eq_false_iff_ne, bne_eq_false_iff_eq, ne_eq, Decidable.not_not] at c27z
       refine W.exit ?_
       have hX74z := M.e_inr hM hN26z
       subst hX74z
       replace hM := hk19z
       try dsimp only at hM
       refine W.seq ?_
       refine W.region rfl ?_
       refine s_val (x_mv (v := v_l6) rfl) ?_
       refine s_val (x_as (v := v_l6) rfl) ?_
       refine s_val (x_as (v := I 0) rfl) ?_
       refine s_nil ?_
       refine W.ret ?_
       have hr_ := M.e_pure hM
       exact ⟨_, resE_tmp2 rfl, ⟨l6, 0, v_l6, hr_, rfl, (H.pick [0] (by decide) rfl)⟩⟩

def m_level_Convict (n_Marks : Int) (n_Lines : List Line) : M (Int × Int) :=
  M.bind (m_level_Moves n_Marks n_Lines) fun (r0, r1) =>
  bif r1 != 0 then (
  M.pure (0, r1))
  else (
  bif (r0.length : Int) == 0 then (
  M.pure (0, 5))
  else (
  bif decide (1 < (r0.length : Int)) then (
  M.pure (0, 11))
  else (
  M.grd (decide (0 < (r0.length : Int))) <|
  M.pure (((r0.getD 0 default).mark), 0))))
theorem level_Convict_ok {R : List Chunk} {C_n_Lines : Cells} {v_n_Lines : Value} (n_Marks : Int) (n_Lines : List Line) (hC_n_Lines : Reads R C_n_Lines) (hs_n_Lines : Sl C_n_Lines v_n_Lines n_Lines) {r : (Int × Int)} (hM : (m_level_Convict n_Marks n_Lines).Ends r) (w : World) (H : St w w [] R) : Ret Try.prog 32 #[.agg #[I n_Marks, v_n_Lines]] w fun v w' => ∃ (y0 : Int) (y1 : Int), (y0, y1) = r /\ v = .tuple #[I y0, I y1] /\ St w w' [] R := by
 refine ret_of_W Try.func32 rfl rfl rfl ?_
 refine W.seq ?_
 refine W.region rfl ?_
 refine t_box (v := .agg #[I n_Marks, v_n_Lines]) (cs := [I n_Marks, v_n_Lines]) H rfl rfl ?_
 intro b_1 w1z H
 refine s_val (x_as (v := I 0) rfl) ?_
 refine s_val (x_as (v := I 0) rfl) ?_
 refine s_nil ?_
 refine W.seq ?_
 refine W.region rfl ?_
 refine s_val (x_ld (p := .pointer (some ⟨b_1, 0, none⟩)) (v := .agg #[I n_Marks, v_n_Lines]) rfl (ldb_ag (ds := [I n_Marks, v_n_Lines]) Ag25 Sz25 (H.blk (k := 0) rfl) rfl rfl)) ?_
 obtain ⟨r3z, hx2z, hM⟩ := M.e_bind hM
 refine s_call cf21 [.agg #[I n_Marks, v_n_Lines]] rfl (level_Moves_ok n_Marks n_Lines (hC_n_Lines.app _) hs_n_Lines hx2z _ (St.give (T := [cBlk b_1 [I n_Marks, v_n_Lines] 25]) H rfl)) ?_
 rintro vq w4z ⟨r0, r1, u0_2, hr5z, hvq, H2_⟩
 subst hr5z
 subst vq
 try dsimp only at hM
 replace H : St w w4z [cOwn (α := Mv) 50 u0_2 r0, cBlk b_1 [I n_Marks, v_n_Lines] 25] R := H.back H2_ rfl
 clear H2_
 refine s_val (x_mv (v := .tuple #[u0_2, I r1]) rfl) ?_
 refine s_val (x_ext (vs := [u0_2, I r1]) (v := u0_2) rfl rfl) ?_
 refine s_val (x_ext (vs := [u0_2, I r1]) (v := I r1) rfl rfl) ?_
 refine s_val (x_as (v := u0_2) rfl) ?_
 refine s_val (x_as (v := I r1) rfl) ?_
 refine s_nil ?_
 refine W.seq ?_
 refine W.block ?_
 refine W.seq ?_
 refine W.region rfl ?_
 refine s_val (x_mv (v := I r1) rfl) ?_
 refine s_val (x_cmp (kd := .i64) (a := r1) (b := 0) (r := r1 != 0) rfl rfl rfl) ?_
 refine s_val (x_as (v := B (r1 != 0)) rfl) ?_
 refine s_nil ?_
 refine W.cond (r1 != 0) rfl (fun c6z => ?_) (fun c6z => ?_)
 ·replace hM := M.e_t hM c6z
  simp only [decide_eq_true_eq, decide_eq_false_iff_not, beq_iff_eq, bne_iff_ne, beq_eq_false_iff_ne, bne_eq_false_iff_eq, ne_eq, Decidable.not_not] at c6z
  refine W.seq ?_
  refine W.region rfl ?_
  refine s_val (x_mv (v := I r1) rfl) ?_
  refine s_val (x_as (v := I 0) rfl) ?_
  refine s_val (x_as (v := I r1) rfl) ?_
  refine s_nil ?_
  refine W.ret ?_
  have hr_ := M.e_pure hM
  exact ⟨_, resE_tmp2 rfl, ⟨0, r1, hr_, rfl, (H.pick [] (by decide) rfl)⟩⟩
 ·replace hM := M.e_f hM c6z
  simp only [decide_eq_true_eq, decide_eq_false_iff_not, beq_iff_eq, bne_iff_ne, beq_eq_false_iff_ne, bne_eq_false_iff_eq, ne_eq, Decidable.not_not] at c6z
  refine W.seq ?_
  refine W.region rfl ?_
  refine s_val (x_mv (v := u0_2) rfl) ?_
  have hl7z := ((ownSl (H.get (k := 0) rfl))).len_le
  refine s_val (x_lenS T46.und rfl (ownSl (H.get (k := 0) rfl))) ?_
  refine s_val (x_cmp (kd := .i64) (a := (r0.length : Int)) (b := 0) (r := (r0.length : Int) == 0) rfl rfl rfl) ?_
  refine s_val (x_as (v := B ((r0.length : Int) == 0)) rfl) ?_
  refine s_nil ?_
  refine W.cond ((r0.length : Int) == 0) rfl (fun c8z => ?_) (fun c8z => ?_)
  ·replace hM := M.e_t hM c8z
   simp only [decide_eq_true_eq, decide_eq_false_iff_not, beq_iff_eq, bne_iff_ne, beq_eq_false_iff_ne, bne_eq_false_iff_eq, ne_eq, Decidable.not_not] at c8z
   refine W.seq ?_
   refine W.region rfl ?_
   refine s_val (x_as (v := I 0) rfl) ?_
   refine s_val (x_as (v := I 5) rfl) ?_
   refine s_nil ?_
   refine W.ret ?_
   have hr_ := M.e_pure hM
   exact ⟨_, resE_tmp2 rfl, ⟨0, 5, hr_, rfl, (H.pick [] (by decide) rfl)⟩⟩
  ·replace hM := M.e_f hM c8z
   simp only [decide_eq_true_eq, decide_eq_false_iff_not, beq_iff_eq, bne_iff_ne, beq_eq_false_iff_ne, bne_eq_false_iff_eq, ne_eq, Decidable.not_not] at c8z
   refine W.seq ?_
   refine W.region rfl ?_
   refine s_val (x_mv (v := u0_2) rfl) ?_
   have hl9z := ((ownSl (H.get (k := 0) rfl))).len_le
   refine s_val (x_lenS T46.und rfl (ownSl (H.get (k := 0) rfl))) ?_
   refine s_val (x_cmp (kd := .i64) (a := (r0.length : Int)) (b := 1) (r := decide (1 < (r0.length : Int))) rfl rfl rfl) ?_
   refine s_val (x_as (v := B (decide (1 < (r0.length : Int)))) rfl) ?_
   refine s_nil ?_
   refine W.cond (decide (1 < (r0.length : Int))) rfl (fun c10z => ?_) (fun c10z => ?_)
   ·replace hM := M.e_t hM c10z
    simp only [decide_eq_true_eq, decide_eq_false_iff_not, beq_iff_eq, bne_iff_ne, beq_eq_false_iff_ne, bne_eq_false_iff_eq, ne_eq, Decidable.not_not] at c10z
    refine W.seq ?_
    refine W.region rfl ?_
    refine s_val (x_as (v := I 0) rfl) ?_
    refine s_val (x_as (v := I 11) rfl) ?_
    refine s_nil ?_
    refine W.ret ?_
    have hr_ := M.e_pure hM
    exact ⟨_, resE_tmp2 rfl, ⟨0, 11, hr_, rfl, (H.pick [] (by decide) rfl)⟩⟩
   ·replace hM := M.e_f hM c10z
    simp only [decide_eq_true_eq, decide_eq_false_iff_not, beq_iff_eq, bne_iff_ne, beq_eq_false_iff_ne, bne_eq_false_iff_eq, ne_eq, Decidable.not_not] at c10z
    refine W.skip ?_
    refine W.seq ?_
    refine W.region rfl ?_
    refine s_val (x_mv (v := u0_2) rfl) ?_
    obtain ⟨sd11z, hM⟩ := M.e_grd hM
    simp only [Bool.and_eq_true, decide_eq_true_eq] at sd11z
    refine s_val (x_ix (a := u0_2) (b := I 0) (v := vat u0_2 2 (Int.toNat 0)) rfl rfl (Sl.ix (α := Mv) T46.und T46.size (ownSl (H.get (k := 0) rfl)) (by omega) (by omega))) ?_
    refine s_val (x_fa (a := vat u0_2 2 (Int.toNat 0)) (v := fat (vat u0_2 2 (Int.toNat 0)) 0) rfl (fa_pl Fd50_0 Sz3 (Sl.pl (i := 0) (ownSl (H.get (k := 0) rfl)) (by omega) (by omega)))) ?_
    refine s_val (x_ld (p := fat (vat u0_2 2 (Int.toNat 0)) 0) (v := I ((r0.getD 0 default).mark)) rfl (ld_sc Sc3 (At.mono (Mv_at0 (ownSl (H.get (k := 0) rfl)) (i := 0) (by omega) (by omega)) (ownLe _ (H.get (k := 0) rfl))))) ?_
    refine s_val (x_as (v := I ((r0.getD 0 default).mark)) rfl) ?_
    refine s_val (x_as (v := I 0) rfl) ?_
    refine s_nil ?_
    refine W.ret ?_
    have hr_ := M.e_pure hM
    exact ⟨_, resE_tmp2 rfl, ⟨((r0.getD 0 default).mark), 0, hr_, rfl, (H.pick [] (by decide) rfl)⟩⟩

end Go.Proofs.Ytclhljenjphofaa
end
