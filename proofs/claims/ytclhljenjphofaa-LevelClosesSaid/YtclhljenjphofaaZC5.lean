/- Part 5 of the texts on which the proof rests. Conditions: none. -/
import Derived.Test.YtclhljenjphofaaZC4
set_option linter.unusedVariables false
set_option linter.unusedSimpArgs false
set_option linter.unusedSectionVars false
section
set_option maxRecDepth 100000
set_option maxHeartbeats 16000000
namespace Go.Proofs.Ytclhljenjphofaa
open Go Go.Nm
def m_level_survey_sinking_b4 (w__Net_Marks : Int) (w__Net_Lines : List Line) (s5 : Nat) : (Int × (List Int) × (List Leg) × (List Bool)) -> Leg -> M ((Int × (List Int) × (List Leg) × (List Bool)) ⊕ Unit) := fun (s, s2, s3, s4) x =>
  M.bind (m_level_survey_goal w__Net_Marks w__Net_Lines x) fun r2 =>
  M.bind (m_level_survey_rise w__Net_Marks w__Net_Lines x) fun r3 =>
  M.grd (decide ((-9223372036854775808 : Int) <= ((s2.getD s5 0) + r3)) && decide (((s2.getD s5 0) + r3) <= (9223372036854775807 : Int))) <|
  M.grd (decide ((0 : Int) <= r2) && decide (r2 < (13 : Int))) <|
  bif ((!(s4.getD (Int.toNat r2) false)) || (decide (((s2.getD s5 0) + r3) < (s2.getD (Int.toNat r2) 0)))) then (
  M.pure (.inl (r2, s2.set (Int.toNat r2) ((s2.getD s5 0) + r3), s3.set (Int.toNat r2) x, s4.set (Int.toNat r2) true)))
  else (
  M.pure (.inl (s, s2, s3, s4)))
def m_level_survey_sinking_b5 (w__Net_Marks : Int) (w__Net_Lines : List Line) : (Nat × (List Int) × (List Leg) × (List Bool) × Int) -> M ((Nat × (List Int) × (List Leg) × (List Bool) × Int) ⊕ ((List Int) × (List Leg) × (List Bool) × Int)) := fun (s5, s6, s7, s8, s9) =>
  bif decide ((s5 : Int) < w__Net_Marks) then (
  M.grd (decide ((0 : Int) <= (s5 : Int)) && decide ((s5 : Int) < (13 : Int))) <|
  bif !(s8.getD s5 false) then (
  M.grd (decide ((-9223372036854775808 : Int) <= ((s5 : Int) + 1)) && decide (((s5 : Int) + 1) <= (9223372036854775807 : Int))) <|
  M.pure (.inl (s5 + 1, s6, s7, s8, s9)))
  else (
  M.bind (m_level_survey_legs w__Net_Marks w__Net_Lines (s5 : Int)) fun r10 =>
  M.bind (m_level_survey_legs_1 (M.yl (m_level_survey_sinking_b4 w__Net_Marks w__Net_Lines s5)) (.inl (s9, s6, s7, s8)) w__Net_Marks w__Net_Lines r10) fun x_ => match x_ with
  | .inl (s, s2, s3, s4) => (
  M.grd (decide ((-9223372036854775808 : Int) <= ((s5 : Int) + 1)) && decide (((s5 : Int) + 1) <= (9223372036854775807 : Int))) <|
  M.pure (.inl (s5 + 1, s2, s3, s4, s)))
  | .inr _ => M.fail))
  else (
  M.pure (.inr (s6, s7, s8, s9)))
def m_level_survey_sinking_b6 (w__Net_Marks : Int) (w__Net_Lines : List Line) : ((List Int) × (List Leg) × (List Bool) × Int × Nat) -> M (((List Int) × (List Leg) × (List Bool) × Int × Nat) ⊕ ((List Int) × (List Leg) × (List Bool) × Int)) := fun (s11, s12, s13, s14, s15) =>
  bif decide ((s15 : Int) < (w__Net_Marks + 1)) then (
  M.bind (M.iter (m_level_survey_sinking_b5 w__Net_Marks w__Net_Lines) (0, s11, s12, s13, -1)) fun (l, l2, l3, s10) =>
  M.grd (decide ((-9223372036854775808 : Int) <= ((s15 : Int) + 1)) && decide (((s15 : Int) + 1) <= (9223372036854775807 : Int))) <|
  M.pure (.inl (l, l2, l3, s10, s15 + 1)))
  else (
  M.pure (.inr (s11, s12, s13, s14)))
def m_level_survey_sinking_b7 (w__Net_Marks : Int) (w__Net_Lines : List Line) (l5 : List Leg) : (Int × Nat) -> M ((Int × Nat) ⊕ Int) := fun (s17, s18) =>
  bif decide ((s18 : Int) < w__Net_Marks) then (
  M.grd (decide ((0 : Int) <= s17) && decide (s17 < (13 : Int))) <|
  M.bind (m_level_survey_start w__Net_Marks w__Net_Lines (l5.getD (Int.toNat s17) default)) fun r4 =>
  M.grd (decide ((-9223372036854775808 : Int) <= ((s18 : Int) + 1)) && decide (((s18 : Int) + 1) <= (9223372036854775807 : Int))) <|
  M.pure (.inl (r4, s18 + 1)))
  else (
  M.pure (.inr s17))
def m_level_survey_sinking_b8 (w__Net_Marks : Int) (w__Net_Lines : List Line) (l5 : List Leg) (s19 : Int) : (Int × (List Leg)) -> M ((Int × (List Leg)) ⊕ ((List Leg) × (List Leg))) := fun (mark, l7) =>
  bif (((l7.length : Int) == 0) || (mark != s19)) then (
  M.grd (decide ((0 : Int) <= mark) && decide (mark < (13 : Int))) <|
  M.grd (decide ((l7.length + ([(l5.getD (Int.toNat mark) default)]).length) * 16 <= 140737488355328)) <|
  M.bind (m_level_survey_start w__Net_Marks w__Net_Lines (l5.getD (Int.toNat mark) default)) fun r5 =>
  M.pure (.inl (r5, l7 ++ ([(l5.getD (Int.toNat mark) default)]))))
  else (
  M.pure (.inr (l7, l7)))
def m_level_survey_sinking (w__Net_Marks : Int) (w__Net_Lines : List Line) (from_ : Int) : M (List Leg) :=
  M.grd (decide ((0 : Int) <= from_) && decide (from_ < (13 : Int))) <|
  M.grd (decide ((-9223372036854775808 : Int) <= (w__Net_Marks + 1)) && decide ((w__Net_Marks + 1) <= (9223372036854775807 : Int))) <|
  M.bind (M.iter (m_level_survey_sinking_b6 w__Net_Marks w__Net_Lines) (List.replicate 13 0, List.replicate 13 default, (List.replicate 13 false).set (Int.toNat from_) true, -1, 0)) fun (l4, l5, l6, s16) =>
  bif s16 == (-1) then (
  M.pure ([]))
  else (
  M.bind (M.iter (m_level_survey_sinking_b7 w__Net_Marks w__Net_Lines l5) (s16, 0)) fun s19 =>
  M.bind (M.iter (m_level_survey_sinking_b8 w__Net_Marks w__Net_Lines l5 s19) (s19, [])) fun (l8, l9) =>
  M.bind (m_slices_Reverse_level_Leg l9) fun l_s =>
  M.grd (decide (0 < l_s.length)) <|
  M.pure l_s)
theorem level_survey_sinking_ok {R : List Chunk} {b_w_ : Nat} {C_w__Net_Lines : Cells} {v_w__Net_Lines : Value} (w__Net_Marks : Int) (w__Net_Lines : List Line) (from_ : Int) (hC_w__Net_Lines : Reads R C_w__Net_Lines) (hs_w__Net_Lines : Sl C_w__Net_Lines v_w__Net_Lines w__Net_Lines) (h_b_w_ : Fld R b_w_ [I w__Net_Marks, v_w__Net_Lines]) {r : (List Leg)} (hM : (m_level_survey_sinking w__Net_Marks w__Net_Lines from_).Ends r) (w : World) (H : St w w [] R) : Ret Try.prog 87 #[.pointer (some ⟨b_w_, 0, none⟩), I from_] w fun v w' => ∃ (y0 : List Leg) (u0 : Value), y0 = r /\ v = u0 /\ St w w' [cOwn (α := Leg) 91 u0 y0] R /\ (y0 = [] -> u0 = .slice none 0 0) := by
 refine ret_of_WD Try.func87 rfl rfl rfl ?_
 replace H : St w w [cMk ([])] R := H.mk0
 have hl_w__Net_Lines := hs_w__Net_Lines.len_le
 unfold m_level_survey_sinking at hM
 refine WD.seq ?_
 refine WD.of ?_
 refine W.region rfl ?_
 refine t_box (v := .pointer (some ⟨b_w_, 0, none⟩)) (cs := [.pointer (some ⟨b_w_, 0, none⟩)]) H rfl rfl ?_
 intro b_1 w1z H
 refine s_val (x_as (v := .slice none 0 0) rfl) ?_
 refine s_nil ?_
 refine WD.seq ?_
 refine WD.of ?_
 refine W.region rfl ?_
 refine t_alloc (cs := (List.flatten [[], encF (α := Int) (List.replicate 13 0), encF (α := Leg) (List.replicate 13 default), encF (α := Bool) (List.replicate 13 false)])) H Al164 (by kernel_rfl) ?_
 intro b_2 w2z H
 refine s_nil ?_
 refine WD.seq ?_
 refine WD.of ?_
 refine W.region rfl ?_
 refine s_val (x_mv (v := I from_) rfl) ?_
 refine s_val (x_fa (a := .pointer (some ⟨b_2, 0, none⟩)) (v := .pointer (some ⟨b_2, 39, none⟩)) rfl (fa_blk (o := 0) Fd164_2 Sz162)) ?_
 obtain ⟨sd3z, hM⟩ := M.e_grd hM
 simp only [Bool.and_eq_true, decide_eq_true_eq] at sd3z
 refine s_val (x_ix (a := .pointer (some ⟨b_2, 39, none⟩)) (b := I from_) (v := .pointer (some ⟨b_2, 39 + Int.toNat from_ * 1, none⟩)) rfl rfl (run_indexS Try.underlying162 Sz4 (by omega) (by omega))) ?_
 refine t_stS (α := Bool) (kc := 0) (b := b_2) (k := 3) (off := 39) (i := (Int.toNat from_)) (f := 0) (sz := 1) (segs := [[], encF (α := Int) (List.replicate 13 0), encF (α := Leg) (List.replicate 13 default), encF (α := Bool) (List.replicate 13 false)]) (segs' := [[], encF (α := Int) (List.replicate 13 0), encF (α := Leg) (List.replicate 13 default), encF (α := Bool) ((List.replicate 13 false).set (Int.toNat from_) true)]) (l := List.replicate 13 false) (l' := (List.replicate 13 false).set (Int.toNat from_) true) (vs := [B true]) (L' := [cBlk b_2 (List.flatten [[], encF (α := Int) (List.replicate 13 0), encF (α := Leg) (List.replicate 13 default), encF (α := Bool) ((List.replicate 13 false).set (Int.toNat from_) true)]) 164, cBlk b_1 [.pointer (some ⟨b_w_, 0, none⟩)] 111, cMk ([])]) H rfl rfl rfl Sz4 rfl rfl rfl rfl (sgo3 List.length_replicate List.length_replicate rfl) rfl rfl (by have hl_ := (show (List.replicate 13 false).length = 13 from List.length_replicate); omega) (by omega) false true rfl rfl rfl rfl ?_
 intro w4z H
 have hl5z : ((List.replicate 13 false).set (Int.toNat from_) true).length = 13 := List.length_set.trans List.length_replicate
 refine s_nil ?_
 refine WD.seq ?_
 refine WD.of ?_
 refine W.region rfl ?_
 refine t_alloc (cs := [I 0]) H Al3 rfl ?_
 intro b_3 w6z H
 refine t_st (k := 0) (b := b_3) (off := 0) (cs := [I 0]) (vs := [I (-1)]) (cs' := [I (-1)]) (v := I (-1)) (L' := [cBlk b_3 [I (-1)] 3, cBlk b_2 (List.flatten [[], encF (α := Int) (List.replicate 13 0), encF (α := Leg) (List.replicate 13 default), encF (α := Bool) ((List.replicate 13 false).set (Int.toNat from_) true)]) 164, cBlk b_1 [.pointer (some ⟨b_w_, 0, none⟩)] 111, cMk ([])]) H rfl rfl rfl Sz3 rfl rfl rfl rfl rfl rfl ?_
 intro w7z H
 refine s_nil ?_
 refine WD.seq ?_
 refine WD.seq ?_
 refine WD.of ?_
 refine W.region rfl ?_
 refine s_val (x_ld (p := .pointer (some ⟨b_1, 0, none⟩)) (v := .pointer (some ⟨b_w_, 0, none⟩)) rfl (ldb_sc Sc111 (H.blk (k := 2) rfl) rfl)) ?_
 refine s_val (x_nc (a := ⟨b_w_, 0, none⟩) rfl) ?_
 refine s_val (x_fa (a := .pointer (some ⟨b_w_, 0, none⟩)) (v := .pointer (some ⟨b_w_, 0, none⟩)) rfl (fa_blk (o := 0) Fd120_0 Sz25)) ?_
 refine s_val (x_fa (a := .pointer (some ⟨b_w_, 0, none⟩)) (v := .pointer (some ⟨b_w_, 0, none⟩)) rfl (fa_blk (o := 0) Fd25_0 Sz3)) ?_
 refine s_val (x_ld (p := .pointer (some ⟨b_w_, 0, none⟩)) (v := I w__Net_Marks) rfl (fld_sc (pre := [I w__Net_Marks, v_w__Net_Lines]) (i := 0) Sc3 (h_b_w_.at H) rfl)) ?_
 obtain ⟨sd8z, hM⟩ := M.e_grd hM
 simp only [Bool.and_eq_true, decide_eq_true_eq] at sd8z
 refine s_val (x_ari (a := w__Net_Marks) (b := 1) (r := w__Net_Marks + 1) rfl rfl rfl (by omega)) ?_
 refine s_val (x_mv (v := I 0) rfl) ?_
 refine s_nil ?_
 refine WD.block ?_
 obtain ⟨ex9z, hi10z, hk11z⟩ := M.e_bind hM
 obtain ⟨m0_, hi10z⟩ := M.e_iter hi10z
 refine WD.loop (fun m Ds12z σ W => ∃ (s11 : List Int) (s12 : List Leg) (s13 : List Bool) (s14 : Int) (s15 : Nat) (ρ : Env), σ = upds ρ [(2, .pointer (some ⟨b_1, 0, none⟩)), (5, .pointer (some ⟨b_2, 0, none⟩)), (6, .pointer (some ⟨b_3, 0, none⟩)), (22, I (w__Net_Marks + 1)), (23, I (s15 : Int))] /\ M.iterN (m_level_survey_sinking_b6 w__Net_Marks w__Net_Lines) m (s11, s12, s13, s14, s15) = some ex9z /\ St w W [cBlk b_3 [I s14] 3, cBlk b_2 (List.flatten [[], encF (α := Int) s11, encF (α := Leg) s12, encF (α := Bool) s13]) 164, cBlk b_1 [.pointer (some ⟨b_w_, 0, none⟩)] 111, cMk Ds12z] R /\ s11.length = 13 /\ s12.length = 13 /\ s13.length = 13) ?_ ?_
 ·exact ⟨_, List.replicate 13 0, List.replicate 13 default, (List.replicate 13 false).set (Int.toNat from_) true, -1, 0, _, upds_of _ _ ⟨rfl, rfl, rfl, rfl, rfl, trivial⟩, hi10z, H, List.length_replicate, List.length_replicate, hl5z⟩
 ·rintro m15z Ds12z σ w13z ⟨s11, s12, s13, s14, s15, ρ, rfl, hI14z, H, hl_s11, hl_s12, hl_s13⟩
  obtain ⟨m16z, lt17z, x18z, hM, hN19z⟩ := M.e_iterN hI14z
  simp only [m_level_survey_sinking_b6] at hM
  clear hI14z
  refine WD.seq ?_
  refine WD.of ?_
  refine W.region rfl ?_
  refine s_val (x_cmp (kd := .i64) (a := (s15 : Int)) (b := w__Net_Marks + 1) (r := decide ((s15 : Int) < (w__Net_Marks + 1))) rfl rfl rfl) ?_
  refine s_nil ?_
  refine WD.seq ?_
  refine WD.cond (decide ((s15 : Int) < (w__Net_Marks + 1))) rfl (fun c20z => ?_) (fun c20z => ?_)
  ·replace hM := M.e_t hM c20z
   simp only [decide_eq_true_eq, decide_eq_false_iff_not, beq_iff_eq, bne_iff_ne, beq_eq_false_iff_ne, bne_eq_false_iff_eq, ne_eq, Decidable.not_not] at c20z
   refine WD.of ?_
   refine W.skip ?_
   refine WD.seq ?_
   refine WD.block ?_
   refine WD.seq ?_
   refine WD.of ?_
   refine W.region rfl ?_
   refine t_st (k := 0) (b := b_3) (off := 0) (cs := [I s14]) (vs := [I (-1)]) (cs' := [I (-1)]) (v := I (-1)) (L' := [cBlk b_3 [I (-1)] 3, cBlk b_2 (List.flatten [[], encF (α := Int) s11, encF (α := Leg) s12, encF (α := Bool) s13]) 164, cBlk b_1 [.pointer (some ⟨b_w_, 0, none⟩)] 111, cMk Ds12z]) H rfl rfl rfl Sz3 rfl rfl rfl rfl rfl rfl ?_
   intro w21z H
   refine s_nil ?_
   refine WD.seq ?_
   refine WD.of ?_
   refine W.region rfl ?_
   refine s_val (x_ld (p := .pointer (some ⟨b_1, 0, none⟩)) (v := .pointer (some ⟨b_w_, 0, none⟩)) rfl (ldb_sc Sc111 (H.blk (k := 2) rfl) rfl)) ?_
   refine s_val (x_nc (a := ⟨b_w_, 0, none⟩) rfl) ?_
   refine s_val (x_fa (a := .pointer (some ⟨b_w_, 0, none⟩)) (v := .pointer (some ⟨b_w_, 0, none⟩)) rfl (fa_blk (o := 0) Fd120_0 Sz25)) ?_
   refine s_val (x_fa (a := .pointer (some ⟨b_w_, 0, none⟩)) (v := .pointer (some ⟨b_w_, 0, none⟩)) rfl (fa_blk (o := 0) Fd25_0 Sz3)) ?_
   refine s_val (x_ld (p := .pointer (some ⟨b_w_, 0, none⟩)) (v := I w__Net_Marks) rfl (fld_sc (pre := [I w__Net_Marks, v_w__Net_Lines]) (i := 0) Sc3 (h_b_w_.at H) rfl)) ?_
   refine s_val (x_mv (v := I 0) rfl) ?_
   refine s_nil ?_
   refine WD.block ?_
   obtain ⟨ex22z, hi23z, hk24z⟩ := M.e_bind hM
   obtain ⟨m0_, hi23z⟩ := M.e_iter hi23z
   refine WD.loop (fun m Ds25z σ W => ∃ (s5 : Nat) (s6 : List Int) (s7 : List Leg) (s8 : List Bool) (s9 : Int) (ρ : Env), σ = upds ρ [(2, .pointer (some ⟨b_1, 0, none⟩)), (5, .pointer (some ⟨b_2, 0, none⟩)), (6, .pointer (some ⟨b_3, 0, none⟩)), (22, I (w__Net_Marks + 1)), (23, I (s15 : Int)), (29, I w__Net_Marks), (30, I (s5 : Int))] /\ M.iterN (m_level_survey_sinking_b5 w__Net_Marks w__Net_Lines) m (s5, s6, s7, s8, s9) = some ex22z /\ St w W [cBlk b_3 [I s9] 3, cBlk b_2 (List.flatten [[], encF (α := Int) s6, encF (α := Leg) s7, encF (α := Bool) s8]) 164, cBlk b_1 [.pointer (some ⟨b_w_, 0, none⟩)] 111, cMk Ds25z] R /\ s6.length = 13 /\ s7.length = 13 /\ s8.length = 13) ?_ ?_
   ·exact ⟨_, 0, s11, s12, s13, -1, _, upds_of _ _ ⟨rfl, rfl, rfl, rfl, rfl, rfl, rfl, trivial⟩, hi23z, H, hl_s11, hl_s12, hl_s13⟩
   ·rintro m28z Ds25z σ w26z ⟨s5, s6, s7, s8, s9, ρ, rfl, hI27z, H, hl_s6, hl_s7, hl_s8⟩
    obtain ⟨m29z, lt30z, x31z, hM, hN32z⟩ := M.e_iterN hI27z
    simp only [m_level_survey_sinking_b5] at hM
    clear hI27z
    refine WD.seq ?_
    refine WD.of ?_
    refine W.region rfl ?_
    refine s_val (x_cmp (kd := .i64) (a := (s5 : Int)) (b := w__Net_Marks) (r := decide ((s5 : Int) < w__Net_Marks)) rfl rfl rfl) ?_
    refine s_nil ?_
    refine WD.seq ?_
    refine WD.cond (decide ((s5 : Int) < w__Net_Marks)) rfl (fun c33z => ?_) (fun c33z => ?_)
    ·replace hM := M.e_t hM c33z
     simp only [decide_eq_true_eq, decide_eq_false_iff_not, beq_iff_eq, bne_iff_ne, beq_eq_false_iff_ne, bne_eq_false_iff_eq, ne_eq, Decidable.not_not] at c33z
     refine WD.of ?_
     refine W.skip ?_
     refine WD.seq ?_
     refine WD.block ?_
     refine WD.seq ?_
     refine WD.of ?_
     refine W.region rfl ?_
     refine s_val (x_mv (v := I (s5 : Int)) rfl) ?_
     refine t_alloc (cs := [I 0]) H Al3 rfl ?_
     intro b_4 w34z H
     refine t_st (k := 0) (b := b_4) (off := 0) (cs := [I 0]) (vs := [I (s5 : Int)]) (cs' := [I (s5 : Int)]) (v := I (s5 : Int)) (L' := [cBlk b_4 [I (s5 : Int)] 3, cBlk b_3 [I s9] 3, cBlk b_2 (List.flatten [[], encF (α := Int) s6, encF (α := Leg) s7, encF (α := Bool) s8]) 164, cBlk b_1 [.pointer (some ⟨b_w_, 0, none⟩)] 111, cMk Ds25z]) H rfl rfl rfl Sz3 rfl rfl rfl rfl rfl rfl ?_
     intro w35z H
     refine s_nil ?_
     refine WD.seq ?_
     refine WD.seq ?_
     refine WD.of ?_
     refine W.region rfl ?_
     refine s_val (x_ld (p := .pointer (some ⟨b_4, 0, none⟩)) (v := I (s5 : Int)) rfl (ldb_sc Sc3 (H.blk (k := 0) rfl) rfl)) ?_
     refine s_val (x_fa (a := .pointer (some ⟨b_2, 0, none⟩)) (v := .pointer (some ⟨b_2, 39, none⟩)) rfl (fa_blk (o := 0) Fd164_2 Sz162)) ?_
     obtain ⟨sd36z, hM⟩ := M.e_grd hM
     simp only [Bool.and_eq_true, decide_eq_true_eq] at sd36z
     refine s_val (x_ix (a := .pointer (some ⟨b_2, 39, none⟩)) (b := I (s5 : Int)) (v := .pointer (some ⟨b_2, 39 + Int.toNat (s5 : Int) * 1, none⟩)) rfl rfl (run_indexS Try.underlying162 Sz4 (by omega) (by omega))) ?_
     refine s_val (x_ld (p := .pointer (some ⟨b_2, 39 + Int.toNat (s5 : Int) * 1, none⟩)) (v := B (s8.getD s5 false)) rfl (ldS (α := Bool) (k := 3) (off := 39) (i := s5) (f := 0) (sz := 1) false Sc4 (H.blk (k := 2) rfl) rfl (sgo3 hl_s6 hl_s7 rfl) rfl (by decide) (by have hl_ := hl_s8; omega) (by omega) rfl)) ?_
     refine s_val (x_not (b := s8.getD s5 false) rfl) ?_
     refine s_nil ?_
     refine WD.cond (!(s8.getD s5 false)) rfl (fun c37z => ?_) (fun c37z => ?_)
     ·replace hM := M.e_t hM c37z
      refine WD.of ?_
      refine W.exit ?_
      refine WD.of ?_
      refine W.region rfl ?_
      obtain ⟨sd38z, hM⟩ := M.e_grd hM
      simp only [Bool.and_eq_true, decide_eq_true_eq] at sd38z
      refine s_val (x_ari (a := (s5 : Int)) (b := 1) (r := (s5 : Int) + 1) rfl rfl rfl (by omega)) ?_
      refine s_val (x_mv (v := I ((s5 : Int) + 1)) rfl) ?_
      refine s_nil ?_
      exact ⟨m29z, lt30z, s5 + 1, s6, s7, s8, s9, _, upds_of _ _ ⟨rfl, rfl, rfl, rfl, rfl, rfl, rfl, trivial⟩, M.e_inl hM hN32z, (H.pick [1, 2, 3, 4] (by decide) rfl), hl_s6, hl_s7, hl_s8⟩
     ·replace hM := M.e_f hM c37z
      refine WD.of ?_
      refine W.skip ?_
      refine WD.seq ?_
      refine WD.of ?_
      refine W.region rfl ?_
      refine s_val (x_ld (p := .pointer (some ⟨b_1, 0, none⟩)) (v := .pointer (some ⟨b_w_, 0, none⟩)) rfl (ldb_sc Sc111 (H.blk (k := 3) rfl) rfl)) ?_
      refine s_val (x_ld (p := .pointer (some ⟨b_4, 0, none⟩)) (v := I (s5 : Int)) rfl (ldb_sc Sc3 (H.blk (k := 0) rfl) rfl)) ?_
      obtain ⟨r40z, hx39z, hM⟩ := M.e_bind hM
      refine s_call cf89 [.pointer (some ⟨b_w_, 0, none⟩), I (s5 : Int)] rfl (level_survey_legs_ok w__Net_Marks w__Net_Lines (s5 : Int) (hC_w__Net_Lines.app _) hs_w__Net_Lines (h_b_w_.app _) hx39z _ (St.give (T := [cBlk b_4 [I (s5 : Int)] 3, cBlk b_3 [I s9] 3, cBlk b_2 (List.flatten [[], encF (α := Int) s6, encF (α := Leg) s7, encF (α := Bool) s8]) 164, cBlk b_1 [.pointer (some ⟨b_w_, 0, none⟩)] 111, cMk Ds25z]) H rfl)) ?_
      rintro vq w41z ⟨r10, nb0_5, nb1_6, hr42z, hvq, H2_⟩
      subst hr42z
      subst vq
      try dsimp only at hM
      replace H : St w w41z [cBlk nb0_5 [.pointer (some ⟨b_w_, 0, none⟩)] 111, cBlk nb1_6 [I r10] 3, cBlk b_4 [I (s5 : Int)] 3, cBlk b_3 [I s9] 3, cBlk b_2 (List.flatten [[], encF (α := Int) s6, encF (α := Leg) s7, encF (α := Bool) s8]) 164, cBlk b_1 [.pointer (some ⟨b_w_, 0, none⟩)] 111, cMk Ds25z] R := H.back H2_ rfl
      clear H2_
      refine s_nil ?_
      refine WD.block ?_
      obtain ⟨t43z, hx44z, hM⟩ := M.e_bind hM
      refine WD.range (L := [cBlk b_3 [I s9] 3, cBlk b_2 (List.flatten [[], encF (α := Int) s6, encF (α := Leg) s7, encF (α := Bool) s8]) 164, cBlk nb0_5 [.pointer (some ⟨b_w_, 0, none⟩)] 111, cBlk nb1_6 [I r10] 3, cBlk b_4 [I (s5 : Int)] 3, cBlk b_1 [.pointer (some ⟨b_w_, 0, none⟩)] 111]) [.pointer (some ⟨nb0_5, 0, none⟩), .pointer (some ⟨nb1_6, 0, none⟩)] (H.pick [6, 3, 4, 0, 1, 2, 5] (by decide) rfl) rfl cf101 ?_
      intro l45z D46z r47z w48z hr49z H
      have hYC : YieldC Try.prog ([cMk (D46z :: Ds25z), cBlk nb0_5 [.pointer (some ⟨b_w_, 0, none⟩)] 111, cBlk nb1_6 [I r10] 3, cBlk b_4 [I (s5 : Int)] 3, cBlk b_1 [.pointer (some ⟨b_w_, 0, none⟩)] 111] ++ R) arLeg (yJ l45z r47z (fun (s, s2, s3, s4) Ls_ => Ls_ = [cBlk b_3 [I s] 3, cBlk b_2 (List.flatten [[], encF (α := Int) s2, encF (α := Leg) s3, encF (α := Bool) s4]) 164] /\ s2.length = 13 /\ s3.length = 13 /\ s4.length = 13) (fun (_ : Unit) _ => False) (fun _ => .ret)) (.func (.yield l45z) #[] #[]) (M.yl (m_level_survey_sinking_b4 w__Net_Marks w__Net_Lines s5)) := by
       refine YieldC.mk2 hr49z (fun (s, s2, s3, s4) Ls_ => Ls_ = [cBlk b_3 [I s] 3, cBlk b_2 (List.flatten [[], encF (α := Int) s2, encF (α := Leg) s3, encF (α := Bool) s4]) 164] /\ s2.length = 13 /\ s3.length = 13 /\ s4.length = 13) (fun (_ : Unit) _ => False) (fun _ => .ret) (m_level_survey_sinking_b4 w__Net_Marks w__Net_Lines s5) (by rintro ⟨s, s2, s3, s4⟩ _ h_; obtain ⟨rfl, _, _, _⟩ := h_; rfl) (fun _ _ h_ => h_.elim) rfl (arLeg_len rfl) ?_
       intro C_ vs_ x hA_
       obtain rfl := hA_
       intro w R hR_ Ls_ s_ r hY_ hM H
       obtain ⟨s, s2, s3, s4⟩ := s_
       obtain ⟨rfl, hl_s2, hl_s3, hl_s4⟩ := hY_
       replace H : St w w [cBlk b_3 [I s] 3, cBlk b_2 (List.flatten [[], encF (α := Int) s2, encF (α := Leg) s3, encF (α := Bool) s4]) 164, cMk (D46z :: Ds25z), cBlk nb0_5 [.pointer (some ⟨b_w_, 0, none⟩)] 111, cBlk nb1_6 [I r10] 3, cBlk b_4 [I (s5 : Int)] 3, cBlk b_1 [.pointer (some ⟨b_w_, 0, none⟩)] 111] R := H
       refine W.region rfl ?_
       refine t_alloc (cs := [I 0, B false]) H Al91 rfl ?_
       intro b_7 w50z H
       refine t_st (k := 0) (b := b_7) (off := 0) (cs := [I 0, B false]) (vs := [I x.line, B x.back]) (cs' := [I x.line, B x.back]) (v := .agg #[I x.line, B x.back]) (L' := [cBlk b_7 [I x.line, B x.back] 91, cBlk b_3 [I s] 3, cBlk b_2 (List.flatten [[], encF (α := Int) s2, encF (α := Leg) s3, encF (α := Bool) s4]) 164, cMk (D46z :: Ds25z), cBlk nb0_5 [.pointer (some ⟨b_w_, 0, none⟩)] 111, cBlk nb1_6 [I r10] 3, cBlk b_4 [I (s5 : Int)] 3, cBlk b_1 [.pointer (some ⟨b_w_, 0, none⟩)] 111]) H rfl rfl rfl Sz91 rfl rfl rfl rfl rfl rfl ?_
       intro w51z H
       refine s_nil ?_
       refine ⟨rfl, [cBlk b_7 [I x.line, B x.back] 91], H.pick [0, 1, 2, 3, 4, 5, 6, 7] (by decide) rfl, ?_⟩
       clear H hR_
       intro w R hR_ H
       replace hC_w__Net_Lines := hC_w__Net_Lines.sub hR_
       replace h_b_w_ := h_b_w_.sub hR_
       replace hM : (m_level_survey_sinking_b4 w__Net_Marks w__Net_Lines s5 (s, s2, s3, s4) x).Ends r := hM
       simp only [m_level_survey_sinking_b4] at hM
       replace H : St w w [cBlk b_7 [I x.line, B x.back] 91, cBlk b_3 [I s] 3, cBlk b_2 (List.flatten [[], encF (α := Int) s2, encF (α := Leg) s3, encF (α := Bool) s4]) 164, cMk (D46z :: Ds25z), cBlk nb0_5 [.pointer (some ⟨b_w_, 0, none⟩)] 111, cBlk nb1_6 [I r10] 3, cBlk b_4 [I (s5 : Int)] 3, cBlk b_1 [.pointer (some ⟨b_w_, 0, none⟩)] 111] R := H
       refine W.block ?_
       refine W.seq ?_
       refine W.draw (fun W => St w W [cBlk b_7 [I x.line, B x.back] 91, cBlk b_3 [I s] 3, cBlk b_2 (List.flatten [[], encF (α := Int) s2, encF (α := Leg) s3, encF (α := Bool) s4]) 164, cMk (D46z :: Ds25z), cBlk nb0_5 [.pointer (some ⟨b_w_, 0, none⟩)] 111, cBlk nb1_6 [I r10] 3, cBlk b_4 [I (s5 : Int)] 3, cBlk b_1 [.pointer (some ⟨b_w_, 0, none⟩)] 111] R) [(0, true), (1, true), (3, true), (4, true), (5, true), (6, true), (7, true), (8, true), (2, false), (9, false), (10, true), (11, true), (12, true)] mixed (by decide +kernel) rfl ?_
       intro w52z hx_
       replace H : St w w52z [cBlk b_7 [I x.line, B x.back] 91, cBlk b_3 [I s] 3, cBlk b_2 (List.flatten [[], encF (α := Int) s2, encF (α := Leg) s3, encF (α := Bool) s4]) 164, cMk (D46z :: Ds25z), cBlk nb0_5 [.pointer (some ⟨b_w_, 0, none⟩)] 111, cBlk nb1_6 [I r10] 3, cBlk b_4 [I (s5 : Int)] 3, cBlk b_1 [.pointer (some ⟨b_w_, 0, none⟩)] 111] R := H.ext hx_
       clear hx_
       refine ⟨(H.pick [0, 1, 2, 3, 4, 5, 6, 7] (by decide) rfl), ?_⟩
       refine d_q rfl (fun w' H => x_ld (p := .pointer (some ⟨b_1, 0, none⟩)) (v := .pointer (some ⟨b_w_, 0, none⟩)) rfl (ldb_sc Sc111 (H.blk (k := 7) rfl) rfl)) ?_
       refine d_q rfl (fun w' H => x_ld (p := .pointer (some ⟨b_7, 0, none⟩)) (v := .agg #[I x.line, B x.back]) rfl (ldb_ag (ds := [I x.line, B x.back]) Ag91 Sz91 (H.blk (k := 0) rfl) rfl rfl)) ?_
       refine d_q rfl (fun w' H => x_ld (p := .pointer (some ⟨b_4, 0, none⟩)) (v := I (s5 : Int)) rfl (ldb_sc Sc3 (H.blk (k := 6) rfl) rfl)) ?_
       refine d_q rfl (fun w' H => x_fa (a := .pointer (some ⟨b_2, 0, none⟩)) (v := .pointer (some ⟨b_2, 0, none⟩)) rfl (fa_blk (o := 0) Fd164_0 Sz114)) ?_
       refine d_q rfl (fun w' H => x_ix (a := .pointer (some ⟨b_2, 0, none⟩)) (b := I (s5 : Int)) (v := .pointer (some ⟨b_2, 0 + Int.toNat (s5 : Int) * 1, none⟩)) rfl rfl (run_indexS Try.underlying114 Sz3 (by omega) (by omega))) ?_
       refine d_q rfl (fun w' H => x_ld (p := .pointer (some ⟨b_2, 0 + Int.toNat (s5 : Int) * 1, none⟩)) (v := I (s2.getD s5 0)) rfl (ldS (α := Int) (k := 1) (off := 0) (i := s5) (f := 0) (sz := 1) 0 Sc3 (H.blk (k := 2) rfl) rfl (sgo1 rfl) rfl (by decide) (by have hl_ := hl_s2; omega) (by omega) rfl)) ?_
       refine d_q rfl (fun w' H => x_ld (p := .pointer (some ⟨b_1, 0, none⟩)) (v := .pointer (some ⟨b_w_, 0, none⟩)) rfl (ldb_sc Sc111 (H.blk (k := 7) rfl) rfl)) ?_
       refine d_q rfl (fun w' H => x_ld (p := .pointer (some ⟨b_7, 0, none⟩)) (v := .agg #[I x.line, B x.back]) rfl (ldb_ag (ds := [I x.line, B x.back]) Ag91 Sz91 (H.blk (k := 0) rfl) rfl rfl)) ?_
       refine d_l rfl ?_
       obtain ⟨r54z, hx53z, hM⟩ := M.e_bind hM
       refine s_call cf84 [.pointer (some ⟨b_w_, 0, none⟩), .agg #[I x.line, B x.back]] rfl (level_survey_goal_ok w__Net_Marks w__Net_Lines x (hC_w__Net_Lines.app _) hs_w__Net_Lines (h_b_w_.app _) hx53z _ (St.give (T := [cBlk b_7 [I x.line, B x.back] 91, cBlk b_3 [I s] 3, cBlk b_2 (List.flatten [[], encF (α := Int) s2, encF (α := Leg) s3, encF (α := Bool) s4]) 164, cMk (D46z :: Ds25z), cBlk nb0_5 [.pointer (some ⟨b_w_, 0, none⟩)] 111, cBlk nb1_6 [I r10] 3, cBlk b_4 [I (s5 : Int)] 3, cBlk b_1 [.pointer (some ⟨b_w_, 0, none⟩)] 111]) H rfl)) ?_
       rintro vq w55z ⟨r2, hr56z, hvq, H2_⟩
       subst hr56z
       subst vq
       try dsimp only at hM
       replace H : St w w55z [cBlk b_7 [I x.line, B x.back] 91, cBlk b_3 [I s] 3, cBlk b_2 (List.flatten [[], encF (α := Int) s2, encF (α := Leg) s3, encF (α := Bool) s4]) 164, cMk (D46z :: Ds25z), cBlk nb0_5 [.pointer (some ⟨b_w_, 0, none⟩)] 111, cBlk nb1_6 [I r10] 3, cBlk b_4 [I (s5 : Int)] 3, cBlk b_1 [.pointer (some ⟨b_w_, 0, none⟩)] 111] R := H.back H2_ rfl
       clear H2_
       refine s_nil ⟨(H.pick [0, 1, 2, 3, 4, 5, 6, 7] (by decide) rfl), ?_⟩
       refine d_l rfl ?_
       obtain ⟨r58z, hx57z, hM⟩ := M.e_bind hM
       refine s_call cf85 [.pointer (some ⟨b_w_, 0, none⟩), .agg #[I x.line, B x.back]] rfl (level_survey_rise_ok w__Net_Marks w__Net_Lines x (hC_w__Net_Lines.app _) hs_w__Net_Lines (h_b_w_.app _) hx57z _ (St.give (T := [cBlk b_7 [I x.line, B x.back] 91, cBlk b_3 [I s] 3, cBlk b_2 (List.flatten [[], encF (α := Int) s2, encF (α := Leg) s3, encF (α := Bool) s4]) 164, cMk (D46z :: Ds25z), cBlk nb0_5 [.pointer (some ⟨b_w_, 0, none⟩)] 111, cBlk nb1_6 [I r10] 3, cBlk b_4 [I (s5 : Int)] 3, cBlk b_1 [.pointer (some ⟨b_w_, 0, none⟩)] 111]) H rfl)) ?_
       rintro vq w59z ⟨r3, hr60z, hvq, H2_⟩
       subst hr60z
       subst vq
       try dsimp only at hM
       replace H : St w w59z [cBlk b_7 [I x.line, B x.back] 91, cBlk b_3 [I s] 3, cBlk b_2 (List.flatten [[], encF (α := Int) s2, encF (α := Leg) s3, encF (α := Bool) s4]) 164, cMk (D46z :: Ds25z), cBlk nb0_5 [.pointer (some ⟨b_w_, 0, none⟩)] 111, cBlk nb1_6 [I r10] 3, cBlk b_4 [I (s5 : Int)] 3, cBlk b_1 [.pointer (some ⟨b_w_, 0, none⟩)] 111] R := H.back H2_ rfl
       clear H2_
       refine s_nil ⟨(H.pick [0, 1, 2, 3, 4, 5, 6, 7] (by decide) rfl), ?_⟩
       obtain ⟨sd61z, hM⟩ := M.e_grd hM
       simp only [Bool.and_eq_true, decide_eq_true_eq] at sd61z
       refine d_q rfl (fun w' H => x_ari (a := s2.getD s5 0) (b := r3) (r := (s2.getD s5 0) + r3) rfl rfl rfl (by omega)) ?_
       refine d_q rfl (fun w' H => x_as (v := I r2) rfl) ?_
       refine d_q rfl (fun w' H => x_as (v := I ((s2.getD s5 0) + r3)) rfl) ?_
       refine d_nil ?_
       refine W.seq ?_
       refine W.region rfl ?_
       refine s_val (x_mv (v := I r2) rfl) ?_
       refine s_val (x_fa (a := .pointer (some ⟨b_2, 0, none⟩)) (v := .pointer (some ⟨b_2, 39, none⟩)) rfl (fa_blk (o := 0) Fd164_2 Sz162)) ?_
       obtain ⟨sd62z, hM⟩ := M.e_grd hM
       simp only [Bool.and_eq_true, decide_eq_true_eq] at sd62z
       refine s_val (x_ix (a := .pointer (some ⟨b_2, 39, none⟩)) (b := I r2) (v := .pointer (some ⟨b_2, 39 + Int.toNat r2 * 1, none⟩)) rfl rfl (run_indexS Try.underlying162 Sz4 (by omega) (by omega))) ?_
       refine s_val (x_ld (p := .pointer (some ⟨b_2, 39 + Int.toNat r2 * 1, none⟩)) (v := B (s4.getD (Int.toNat r2) false)) rfl (ldS (α := Bool) (k := 3) (off := 39) (i := (Int.toNat r2)) (f := 0) (sz := 1) false Sc4 (H.blk (k := 2) rfl) rfl (sgo3 hl_s2 hl_s3 rfl) rfl (by decide) (by have hl_ := hl_s4; omega) (by omega) rfl)) ?_
       refine s_val (x_not (b := s4.getD (Int.toNat r2) false) rfl) ?_
       refine s_val (x_mv (v := B (!(s4.getD (Int.toNat r2) false))) rfl) ?_
       refine g_val (!(!(s4.getD (Int.toNat r2) false))) (gy_f rfl) (fun hg => x_mv (v := I ((s2.getD s5 0) + r3)) rfl) ?_
       refine g_val (!(!(s4.getD (Int.toNat r2) false))) (gy_f rfl) (fun hg => x_mv (v := I r2) rfl) ?_
       refine g_val (!(!(s4.getD (Int.toNat r2) false))) (gy_f rfl) (fun hg => x_fa (a := .pointer (some ⟨b_2, 0, none⟩)) (v := .pointer (some ⟨b_2, 0, none⟩)) rfl (fa_blk (o := 0) Fd164_0 Sz114)) ?_
       refine g_val (!(!(s4.getD (Int.toNat r2) false))) (gy_f rfl) (fun hg => x_ix (a := .pointer (some ⟨b_2, 0, none⟩)) (b := I r2) (v := .pointer (some ⟨b_2, 0 + Int.toNat r2 * 1, none⟩)) (gd_of (c := !(!(s4.getD (Int.toNat r2) false))) hg (.pointer (some ⟨b_2, 0, none⟩))) (gd_of (c := !(!(s4.getD (Int.toNat r2) false))) hg (I r2)) (run_indexS Try.underlying114 Sz3 (by first | omega | (have hx_ := hg; simp at hx_; omega)) (by first | omega | (have hx_ := hg; simp at hx_; omega)))) ?_
       refine g_val (!(!(s4.getD (Int.toNat r2) false))) (gy_f rfl) (fun hg => x_ld (p := .pointer (some ⟨b_2, 0 + Int.toNat r2 * 1, none⟩)) (v := I (s2.getD (Int.toNat r2) 0)) (gd_of (c := !(!(s4.getD (Int.toNat r2) false))) hg (.pointer (some ⟨b_2, 0 + Int.toNat r2 * 1, none⟩))) (ldS (α := Int) (k := 1) (off := 0) (i := (Int.toNat r2)) (f := 0) (sz := 1) 0 Sc3 (H.blk (k := 2) rfl) rfl (sgo1 rfl) rfl (by decide) (by have hl_ := hl_s2; first | omega | (have hx_ := hg; simp at hx_; omega)) (by omega) rfl)) ?_
       refine g_val (!(!(s4.getD (Int.toNat r2) false))) (gy_f rfl) (fun hg => x_cmp (kd := .i64) (a := (s2.getD s5 0) + r3) (b := s2.getD (Int.toNat r2) 0) (r := decide (((s2.getD s5 0) + r3) < (s2.getD (Int.toNat r2) 0))) (gd_of (c := !(!(s4.getD (Int.toNat r2) false))) hg (I ((s2.getD s5 0) + r3))) (gd_of (c := !(!(s4.getD (Int.toNat r2) false))) hg (I (s2.getD (Int.toNat r2) 0))) rfl) ?_
       refine s_val (x_por (b := !(s4.getD (Int.toNat r2) false)) (r := decide (((s2.getD s5 0) + r3) < (s2.getD (Int.toNat r2) 0))) rfl rfl (fun hb => gd_of (c := !(!(s4.getD (Int.toNat r2) false))) (by first | exact hb | (rw [hb]; rfl) | simp_all) (B (decide (((s2.getD s5 0) + r3) < (s2.getD (Int.toNat r2) 0)))))) ?_
       refine s_nil ?_
       refine W.cond ((!(s4.getD (Int.toNat r2) false)) || (decide (((s2.getD s5 0) + r3) < (s2.getD (Int.toNat r2) 0)))) rfl (fun c63z => ?_) (fun c63z => ?_)
       ·replace hM := M.e_t hM c63z
        refine W.seq ?_
        refine W.draw (fun W => St w W [cBlk b_7 [I x.line, B x.back] 91, cBlk b_3 [I s] 3, cMk (D46z :: Ds25z), cBlk nb0_5 [.pointer (some ⟨b_w_, 0, none⟩)] 111, cBlk nb1_6 [I r10] 3, cBlk b_4 [I (s5 : Int)] 3, cBlk b_1 [.pointer (some ⟨b_w_, 0, none⟩)] 111] R) [(0, true), (1, true), (2, true), (3, true), (4, true), (5, true), (6, true), (8, true), (11, true), (7, false), (9, true), (10, false), (12, true), (13, false)] mixed (by decide +kernel) rfl ?_
        intro w64z hx_
        replace H : St w w64z [cBlk b_7 [I x.line, B x.back] 91, cBlk b_3 [I s] 3, cBlk b_2 (List.flatten [[], encF (α := Int) s2, encF (α := Leg) s3, encF (α := Bool) s4]) 164, cMk (D46z :: Ds25z), cBlk nb0_5 [.pointer (some ⟨b_w_, 0, none⟩)] 111, cBlk nb1_6 [I r10] 3, cBlk b_4 [I (s5 : Int)] 3, cBlk b_1 [.pointer (some ⟨b_w_, 0, none⟩)] 111] R := H.ext hx_
        clear hx_
        refine ⟨(H.pick [0, 1, 3, 4, 5, 6, 7] (by decide) rfl), ?_⟩
        refine d_q rfl (fun w' H => x_mv (v := I r2) rfl) ?_
        refine d_q rfl (fun w' H => x_mv (v := I r2) rfl) ?_
        refine d_q rfl (fun w' H => x_mv (v := I r2) rfl) ?_
        refine d_q rfl (fun w' H => x_mv (v := I ((s2.getD s5 0) + r3)) rfl) ?_
        refine d_q rfl (fun w' H => x_ld (p := .pointer (some ⟨b_7, 0, none⟩)) (v := .agg #[I x.line, B x.back]) rfl (ldb_ag (ds := [I x.line, B x.back]) Ag91 Sz91 (H.blk (k := 0) rfl) rfl rfl)) ?_
        refine d_q rfl (fun w' H => x_fa (a := .pointer (some ⟨b_2, 0, none⟩)) (v := .pointer (some ⟨b_2, 39, none⟩)) rfl (fa_blk (o := 0) Fd164_2 Sz162)) ?_
        refine d_q rfl (fun w' H => x_ix (a := .pointer (some ⟨b_2, 39, none⟩)) (b := I r2) (v := .pointer (some ⟨b_2, 39 + Int.toNat r2 * 1, none⟩)) rfl rfl (run_indexS Try.underlying162 Sz4 (by omega) (by omega))) ?_
        refine d_q rfl (fun w' H => x_fa (a := .pointer (some ⟨b_2, 0, none⟩)) (v := .pointer (some ⟨b_2, 0, none⟩)) rfl (fa_blk (o := 0) Fd164_0 Sz114)) ?_
        refine d_q rfl (fun w' H => x_fa (a := .pointer (some ⟨b_2, 0, none⟩)) (v := .pointer (some ⟨b_2, 13, none⟩)) rfl (fa_blk (o := 0) Fd164_1 Sz117)) ?_
        refine d_l rfl ?_
        refine t_stS (α := Bool) (kc := 2) (b := b_2) (k := 3) (off := 39) (i := (Int.toNat r2)) (f := 0) (sz := 1) (segs := [[], encF (α := Int) s2, encF (α := Leg) s3, encF (α := Bool) s4]) (segs' := [[], encF (α := Int) s2, encF (α := Leg) s3, encF (α := Bool) (s4.set (Int.toNat r2) true)]) (l := s4) (l' := s4.set (Int.toNat r2) true) (vs := [B true]) (L' := [cBlk b_7 [I x.line, B x.back] 91, cBlk b_3 [I s] 3, cBlk b_2 (List.flatten [[], encF (α := Int) s2, encF (α := Leg) s3, encF (α := Bool) (s4.set (Int.toNat r2) true)]) 164, cMk (D46z :: Ds25z), cBlk nb0_5 [.pointer (some ⟨b_w_, 0, none⟩)] 111, cBlk nb1_6 [I r10] 3, cBlk b_4 [I (s5 : Int)] 3, cBlk b_1 [.pointer (some ⟨b_w_, 0, none⟩)] 111]) H rfl rfl rfl Sz4 rfl rfl rfl rfl (sgo3 hl_s2 hl_s3 rfl) rfl rfl (by have hl_ := hl_s4; omega) (by omega) false true rfl rfl rfl rfl ?_
        intro w65z H
        have hl66z : (s4.set (Int.toNat r2) true).length = 13 := List.length_set.trans hl_s4
        refine s_nil ⟨(H.pick [0, 1, 3, 4, 5, 6, 7] (by decide) rfl), ?_⟩
        refine d_q rfl (fun w' H => x_ix (a := .pointer (some ⟨b_2, 0, none⟩)) (b := I r2) (v := .pointer (some ⟨b_2, 0 + Int.toNat r2 * 1, none⟩)) rfl rfl (run_indexS Try.underlying114 Sz3 (by omega) (by omega))) ?_
        refine d_l rfl ?_
        refine t_stS (α := Int) (kc := 2) (b := b_2) (k := 1) (off := 0) (i := (Int.toNat r2)) (f := 0) (sz := 1) (segs := [[], encF (α := Int) s2, encF (α := Leg) s3, encF (α := Bool) (s4.set (Int.toNat r2) true)]) (segs' := [[], encF (α := Int) (s2.set (Int.toNat r2) ((s2.getD s5 0) + r3)), encF (α := Leg) s3, encF (α := Bool) (s4.set (Int.toNat r2) true)]) (l := s2) (l' := s2.set (Int.toNat r2) ((s2.getD s5 0) + r3)) (vs := [I ((s2.getD s5 0) + r3)]) (L' := [cBlk b_7 [I x.line, B x.back] 91, cBlk b_3 [I s] 3, cBlk b_2 (List.flatten [[], encF (α := Int) (s2.set (Int.toNat r2) ((s2.getD s5 0) + r3)), encF (α := Leg) s3, encF (α := Bool) (s4.set (Int.toNat r2) true)]) 164, cMk (D46z :: Ds25z), cBlk nb0_5 [.pointer (some ⟨b_w_, 0, none⟩)] 111, cBlk nb1_6 [I r10] 3, cBlk b_4 [I (s5 : Int)] 3, cBlk b_1 [.pointer (some ⟨b_w_, 0, none⟩)] 111]) H rfl rfl rfl Sz3 rfl rfl rfl rfl (sgo1 rfl) rfl rfl (by have hl_ := hl_s2; omega) (by omega) 0 ((s2.getD s5 0) + r3) rfl rfl rfl rfl ?_
        intro w67z H
        have hl68z : (s2.set (Int.toNat r2) ((s2.getD s5 0) + r3)).length = 13 := List.length_set.trans hl_s2
        refine s_nil ⟨(H.pick [0, 1, 3, 4, 5, 6, 7] (by decide) rfl), ?_⟩
        refine d_q rfl (fun w' H => x_ix (a := .pointer (some ⟨b_2, 13, none⟩)) (b := I r2) (v := .pointer (some ⟨b_2, 13 + Int.toNat r2 * 2, none⟩)) rfl rfl (run_indexS Try.underlying117 Sz91 (by omega) (by omega))) ?_
        refine d_l rfl ?_
        refine t_stS (α := Leg) (kc := 2) (b := b_2) (k := 2) (off := 13) (i := (Int.toNat r2)) (f := 0) (sz := 2) (segs := [[], encF (α := Int) (s2.set (Int.toNat r2) ((s2.getD s5 0) + r3)), encF (α := Leg) s3, encF (α := Bool) (s4.set (Int.toNat r2) true)]) (segs' := [[], encF (α := Int) (s2.set (Int.toNat r2) ((s2.getD s5 0) + r3)), encF (α := Leg) (s3.set (Int.toNat r2) x), encF (α := Bool) (s4.set (Int.toNat r2) true)]) (l := s3) (l' := s3.set (Int.toNat r2) x) (vs := [I x.line, B x.back]) (L' := [cBlk b_7 [I x.line, B x.back] 91, cBlk b_3 [I s] 3, cBlk b_2 (List.flatten [[], encF (α := Int) (s2.set (Int.toNat r2) ((s2.getD s5 0) + r3)), encF (α := Leg) (s3.set (Int.toNat r2) x), encF (α := Bool) (s4.set (Int.toNat r2) true)]) 164, cMk (D46z :: Ds25z), cBlk nb0_5 [.pointer (some ⟨b_w_, 0, none⟩)] 111, cBlk nb1_6 [I r10] 3, cBlk b_4 [I (s5 : Int)] 3, cBlk b_1 [.pointer (some ⟨b_w_, 0, none⟩)] 111]) H rfl rfl rfl Sz91 rfl rfl rfl rfl (sgo2 hl68z rfl) rfl rfl (by have hl_ := hl_s3; omega) (by omega) default x rfl rfl rfl rfl ?_
        intro w69z H
        have hl70z : (s3.set (Int.toNat r2) x).length = 13 := List.length_set.trans hl_s3
        refine s_nil ⟨(H.pick [0, 1, 3, 4, 5, 6, 7] (by decide) rfl), ?_⟩
        refine d_nil ?_
        refine W.region rfl ?_
        refine s_val (x_mv (v := I r2) rfl) ?_
        refine t_st (k := 1) (b := b_3) (off := 0) (cs := [I s]) (vs := [I r2]) (cs' := [I r2]) (v := I r2) (L' := [cBlk b_7 [I x.line, B x.back] 91, cBlk b_3 [I r2] 3, cBlk b_2 (List.flatten [[], encF (α := Int) (s2.set (Int.toNat r2) ((s2.getD s5 0) + r3)), encF (α := Leg) (s3.set (Int.toNat r2) x), encF (α := Bool) (s4.set (Int.toNat r2) true)]) 164, cMk (D46z :: Ds25z), cBlk nb0_5 [.pointer (some ⟨b_w_, 0, none⟩)] 111, cBlk nb1_6 [I r10] 3, cBlk b_4 [I (s5 : Int)] 3, cBlk b_1 [.pointer (some ⟨b_w_, 0, none⟩)] 111]) H rfl rfl rfl Sz3 rfl rfl rfl rfl rfl rfl ?_
        intro w71z H
        refine s_nil ?_
        exact ⟨(r2, s2.set (Int.toNat r2) ((s2.getD s5 0) + r3), s3.set (Int.toNat r2) x, s4.set (Int.toNat r2) true), [cBlk b_3 [I r2] 3, cBlk b_2 (List.flatten [[], encF (α := Int) (s2.set (Int.toNat r2) ((s2.getD s5 0) + r3)), encF (α := Leg) (s3.set (Int.toNat r2) x), encF (α := Bool) (s4.set (Int.toNat r2) true)]) 164], (M.e_pure hM).symm, ⟨rfl, hl68z, hl70z, hl66z⟩, H.pick [1, 2, 3, 4, 5, 6, 7] (by decide) rfl⟩
       ·replace hM := M.e_f hM c63z
        refine W.skip ?_
        exact ⟨(s, s2, s3, s4), [cBlk b_3 [I s] 3, cBlk b_2 (List.flatten [[], encF (α := Int) s2, encF (α := Leg) s3, encF (α := Bool) s4]) 164], (M.e_pure hM).symm, ⟨rfl, hl_s2, hl_s3, hl_s4⟩, H.pick [1, 2, 3, 4, 5, 6, 7] (by decide) rfl⟩
      replace H : St w w48z (cAll (cObj l45z (.loop r47z) :: [cBlk b_3 [I s9] 3, cBlk b_2 (List.flatten [[], encF (α := Int) s6, encF (α := Leg) s7, encF (α := Bool) s8]) 164]) :: [cMk (D46z :: Ds25z), cBlk nb0_5 [.pointer (some ⟨b_w_, 0, none⟩)] 111, cBlk nb1_6 [I r10] 3, cBlk b_4 [I (s5 : Int)] 3, cBlk b_1 [.pointer (some ⟨b_w_, 0, none⟩)] 111]) R := St.bundleB (A := cObj l45z (.loop r47z) :: [cBlk b_3 [I s9] 3, cBlk b_2 (List.flatten [[], encF (α := Int) s6, encF (α := Leg) s7, encF (α := Bool) s8]) 164]) (T := [cMk (D46z :: Ds25z), cBlk nb0_5 [.pointer (some ⟨b_w_, 0, none⟩)] 111, cBlk nb1_6 [I r10] 3, cBlk b_4 [I (s5 : Int)] 3, cBlk b_1 [.pointer (some ⟨b_w_, 0, none⟩)] 111]) rfl (H.pick [0, 2, 3, 1, 4, 5, 6, 7] (by decide) rfl)
      refine (level_survey_legs_1_ok (M.yl (m_level_survey_sinking_b4 w__Net_Marks w__Net_Lines s5)) (.inl (s9, s6, s7, s8)) w__Net_Marks w__Net_Lines r10 hYC ⟨_, rfl, ⟨rfl, hl_s6, hl_s7, hl_s8⟩⟩ (hC_w__Net_Lines.app _) hs_w__Net_Lines (fun _ _ _ => Fld.cons (h_b_w_.app _) _) (Has.here (k := 1) rfl) (Has.here (k := 2) rfl) hx44z _ (St.give (A := [cAll (cObj l45z (.loop r47z) :: [cBlk b_3 [I s9] 3, cBlk b_2 (List.flatten [[], encF (α := Int) s6, encF (α := Leg) s7, encF (α := Bool) s8]) 164])]) (T := [cMk (D46z :: Ds25z), cBlk nb0_5 [.pointer (some ⟨b_w_, 0, none⟩)] 111, cBlk nb1_6 [I r10] 3, cBlk b_4 [I (s5 : Int)] 3, cBlk b_1 [.pointer (some ⟨b_w_, 0, none⟩)] 111]) H rfl)).mono ?_
      rintro vq w72z ⟨t76z, Ls74z, hq77z, hvq, H2_, hY75z⟩
      subst hq77z
      replace H := H.back H2_ rfl
      clear H2_ hYC
      rcases t76z with ⟨s, s2, s3, s4⟩ | _
      ·try dsimp only at hM
       obtain ⟨_, rfl, rfl, hl_s2, hl_s3, hl_s4⟩ := hY75z
       refine ⟨_, [cBlk b_3 [I s] 3, cBlk b_2 (List.flatten [[], encF (α := Int) s2, encF (α := Leg) s3, encF (α := Bool) s4]) 164, cBlk nb0_5 [.pointer (some ⟨b_w_, 0, none⟩)] 111, cBlk nb1_6 [I r10] 3, cBlk b_4 [I (s5 : Int)] 3, cBlk b_1 [.pointer (some ⟨b_w_, 0, none⟩)] 111], H.unbundle.pick [0, 3, 1, 2, 4, 5, 6, 7] (by decide) rfl, hr49z.nb, ?_⟩
       intro w73z H
       rw [hr49z.pd]
       replace H : St w w73z [cMk (D46z :: Ds25z), cBlk b_3 [I s] 3, cBlk b_2 (List.flatten [[], encF (α := Int) s2, encF (α := Leg) s3, encF (α := Bool) s4]) 164, cBlk nb0_5 [.pointer (some ⟨b_w_, 0, none⟩)] 111, cBlk nb1_6 [I r10] 3, cBlk b_4 [I (s5 : Int)] 3, cBlk b_1 [.pointer (some ⟨b_w_, 0, none⟩)] 111] R := H
       try simp only []
       refine WD.of ?_
       refine W.region rfl ?_
       obtain ⟨sd78z, hM⟩ := M.e_grd hM
       simp only [Bool.and_eq_true, decide_eq_true_eq] at sd78z
       refine s_val (x_ari (a := (s5 : Int)) (b := 1) (r := (s5 : Int) + 1) rfl rfl rfl (by omega)) ?_
       refine s_val (x_mv (v := I ((s5 : Int) + 1)) rfl) ?_
       refine s_nil ?_
       exact ⟨m29z, lt30z, s5 + 1, s2, s3, s4, s, _, upds_of _ _ ⟨rfl, rfl, rfl, rfl, rfl, rfl, rfl, trivial⟩, M.e_inl hM hN32z, (H.pick [1, 2, 6, 0] (by decide) rfl), hl_s2, hl_s3, hl_s4⟩
      ·obtain ⟨_, _, h_⟩ := hY75z; exact h_.elim
    ·replace hM := M.e_f hM c33z
     simp only [decide_eq_true_eq, decide_eq_false_iff_not, beq_iff_eq, bne_iff_ne, beq_eq_false_iff_ne, bne_eq_false_iff_eq, ne_eq, Decidable.not_not] at c33z
     refine WD.of ?_
     refine W.exit ?_
     have hX79z := M.e_inr hM hN32z
     subst hX79z
     replace hM := hk24z
     try dsimp only at hM
     refine WD.of ?_
     refine W.region rfl ?_
     obtain ⟨sd80z, hM⟩ := M.e_grd hM
     simp only [Bool.and_eq_true, decide_eq_true_eq] at sd80z
     refine s_val (x_ari (a := (s15 : Int)) (b := 1) (r := (s15 : Int) + 1) rfl rfl rfl (by omega)) ?_
     refine s_val (x_mv (v := I ((s15 : Int) + 1)) rfl) ?_
     refine s_nil ?_
     exact ⟨m16z, lt17z, s6, s7, s8, s9, s15 + 1, _, upds_of _ _ ⟨rfl, rfl, rfl, rfl, rfl, trivial⟩, M.e_inl hM hN19z, H, hl_s6, hl_s7, hl_s8⟩
  ·replace hM := M.e_f hM c20z
   simp only [decide_eq_true_eq, decide_eq_false_iff_not, beq_iff_eq, bne_iff_ne, beq_eq_false_iff_ne, bne_eq_false_iff_eq, ne_eq, Decidable.not_not] at c20z
   refine WD.of ?_
   refine W.exit ?_
   have hX81z := M.e_inr hM hN19z
   subst hX81z
   replace hM := hk11z
   try dsimp only at hM
   refine WD.seq ?_
   refine WD.seq ?_
   refine WD.of ?_
   refine W.region rfl ?_
   refine s_val (x_ld (p := .pointer (some ⟨b_3, 0, none⟩)) (v := I s14) rfl (ldb_sc Sc3 (H.blk (k := 0) rfl) rfl)) ?_
   refine s_val (x_cmp (kd := .i64) (a := s14) (b := -1) (r := s14 == (-1)) rfl rfl rfl) ?_
   refine s_nil ?_
   refine WD.cond (s14 == (-1)) rfl (fun c82z => ?_) (fun c82z => ?_)
   ·replace hM := M.e_t hM c82z
    simp only [decide_eq_true_eq, decide_eq_false_iff_not, beq_iff_eq, bne_iff_ne, beq_eq_false_iff_ne, bne_eq_false_iff_eq, ne_eq, Decidable.not_not] at c82z
    refine WD.seq ?_
    refine WD.of ?_
    refine W.region rfl ?_
    refine s_val (x_as (v := .slice none 0 0) rfl) ?_
    refine s_nil ?_
    refine WD.of ?_
    refine W.ret ?_
    refine bodyD_r (H.pick [3, 0, 1, 2] (by decide) rfl) ?_
    intro w83z H
    replace H : St w w83z [cBlk b_3 [I s14] 3, cBlk b_2 (List.flatten [[], encF (α := Int) s11, encF (α := Leg) s12, encF (α := Bool) s13]) 164, cBlk b_1 [.pointer (some ⟨b_w_, 0, none⟩)] 111] R := H
    have hr_ := M.e_pure hM
    replace H : St w w83z [cOwn (α := Leg) 91 (.slice none 0 0) ([]), cBlk b_3 [I s14] 3, cBlk b_2 (List.flatten [[], encF (α := Int) s11, encF (α := Leg) s12, encF (α := Bool) s13]) 164, cBlk b_1 [.pointer (some ⟨b_w_, 0, none⟩)] 111] R := H.nilOwn (α := Leg) 91
    exact ⟨_, resE_tmp rfl, ⟨([]), (.slice none 0 0), hr_, rfl, (H.pick [0] (by decide) rfl), (fun _ => rfl)⟩⟩
   ·replace hM := M.e_f hM c82z
    simp only [decide_eq_true_eq, decide_eq_false_iff_not, beq_iff_eq, bne_iff_ne, beq_eq_false_iff_ne, bne_eq_false_iff_eq, ne_eq, Decidable.not_not] at c82z
    refine WD.of ?_
    refine W.skip ?_
    refine WD.seq ?_
    refine WD.seq ?_
    refine WD.of ?_
    refine W.region rfl ?_
    refine s_val (x_ld (p := .pointer (some ⟨b_1, 0, none⟩)) (v := .pointer (some ⟨b_w_, 0, none⟩)) rfl (ldb_sc Sc111 (H.blk (k := 2) rfl) rfl)) ?_
    refine s_val (x_nc (a := ⟨b_w_, 0, none⟩) rfl) ?_
    refine s_val (x_fa (a := .pointer (some ⟨b_w_, 0, none⟩)) (v := .pointer (some ⟨b_w_, 0, none⟩)) rfl (fa_blk (o := 0) Fd120_0 Sz25)) ?_
    refine s_val (x_fa (a := .pointer (some ⟨b_w_, 0, none⟩)) (v := .pointer (some ⟨b_w_, 0, none⟩)) rfl (fa_blk (o := 0) Fd25_0 Sz3)) ?_
    refine s_val (x_ld (p := .pointer (some ⟨b_w_, 0, none⟩)) (v := I w__Net_Marks) rfl (fld_sc (pre := [I w__Net_Marks, v_w__Net_Lines]) (i := 0) Sc3 (h_b_w_.at H) rfl)) ?_
    refine s_val (x_mv (v := I 0) rfl) ?_
    refine s_nil ?_
    refine WD.block ?_
    obtain ⟨ex84z, hi85z, hk86z⟩ := M.e_bind hM
    obtain ⟨m0_, hi85z⟩ := M.e_iter hi85z
    refine WD.loop (fun m Ds87z σ W => ∃ (s17 : Int) (s18 : Nat) (ρ : Env), σ = upds ρ [(2, .pointer (some ⟨b_1, 0, none⟩)), (5, .pointer (some ⟨b_2, 0, none⟩)), (6, .pointer (some ⟨b_3, 0, none⟩)), (86, I w__Net_Marks), (87, I (s18 : Int))] /\ M.iterN (m_level_survey_sinking_b7 w__Net_Marks w__Net_Lines s12) m (s17, s18) = some ex84z /\ St w W [cBlk b_3 [I s17] 3, cBlk b_2 (List.flatten [[], encF (α := Int) s11, encF (α := Leg) s12, encF (α := Bool) s13]) 164, cBlk b_1 [.pointer (some ⟨b_w_, 0, none⟩)] 111, cMk Ds87z] R) ?_ ?_
    ·exact ⟨_, s14, 0, _, upds_of _ _ ⟨rfl, rfl, rfl, rfl, rfl, trivial⟩, hi85z, H⟩
    ·rintro m90z Ds87z σ w88z ⟨s17, s18, ρ, rfl, hI89z, H⟩
     obtain ⟨m91z, lt92z, x93z, hM, hN94z⟩ := M.e_iterN hI89z
     simp only [m_level_survey_sinking_b7] at hM
     clear hI89z
     refine WD.seq ?_
     refine WD.of ?_
     refine W.region rfl ?_
     refine s_val (x_cmp (kd := .i64) (a := (s18 : Int)) (b := w__Net_Marks) (r := decide ((s18 : Int) < w__Net_Marks)) rfl rfl rfl) ?_
     refine s_nil ?_
     refine WD.seq ?_
     refine WD.cond (decide ((s18 : Int) < w__Net_Marks)) rfl (fun c95z => ?_) (fun c95z => ?_)
     ·replace hM := M.e_t hM c95z
      simp only [decide_eq_true_eq, decide_eq_false_iff_not, beq_iff_eq, bne_iff_ne, beq_eq_false_iff_ne, bne_eq_false_iff_eq, ne_eq, Decidable.not_not] at c95z
      refine WD.of ?_
      refine W.skip ?_
      refine WD.seq ?_
      refine WD.block ?_
      refine WD.of ?_
      refine W.draw (fun W => St w W [cBlk b_2 (List.flatten [[], encF (α := Int) s11, encF (α := Leg) s12, encF (α := Bool) s13]) 164, cBlk b_1 [.pointer (some ⟨b_w_, 0, none⟩)] 111, cMk Ds87z] R) [(0, true), (2, true), (1, false), (3, true), (4, true), (5, false), (6, false)] mixed (by decide +kernel) rfl ?_
      intro w96z hx_
      replace H : St w w96z [cBlk b_3 [I s17] 3, cBlk b_2 (List.flatten [[], encF (α := Int) s11, encF (α := Leg) s12, encF (α := Bool) s13]) 164, cBlk b_1 [.pointer (some ⟨b_w_, 0, none⟩)] 111, cMk Ds87z] R := H.ext hx_
      clear hx_
      refine ⟨(H.pick [1, 2, 3] (by decide) rfl), ?_⟩
      refine d_q rfl (fun w' H => x_ld (p := .pointer (some ⟨b_1, 0, none⟩)) (v := .pointer (some ⟨b_w_, 0, none⟩)) rfl (ldb_sc Sc111 (H.blk (k := 1) rfl) rfl)) ?_
      refine d_q rfl (fun w' H => x_fa (a := .pointer (some ⟨b_2, 0, none⟩)) (v := .pointer (some ⟨b_2, 13, none⟩)) rfl (fa_blk (o := 0) Fd164_1 Sz117)) ?_
      refine d_l rfl ?_
      refine s_val (x_ld (p := .pointer (some ⟨b_3, 0, none⟩)) (v := I s17) rfl (ldb_sc Sc3 (H.blk (k := 0) rfl) rfl)) ?_
      refine s_nil ⟨(H.pick [1, 2, 3] (by decide) rfl), ?_⟩
      obtain ⟨sd97z, hM⟩ := M.e_grd hM
      simp only [Bool.and_eq_true, decide_eq_true_eq] at sd97z
      refine d_q rfl (fun w' H => x_ix (a := .pointer (some ⟨b_2, 13, none⟩)) (b := I s17) (v := .pointer (some ⟨b_2, 13 + Int.toNat s17 * 2, none⟩)) rfl rfl (run_indexS Try.underlying117 Sz91 (by omega) (by omega))) ?_
      refine d_q rfl (fun w' H => x_ld (p := .pointer (some ⟨b_2, 13 + Int.toNat s17 * 2, none⟩)) (v := .agg #[I ((s12.getD (Int.toNat s17) default).line), B ((s12.getD (Int.toNat s17) default).back)]) rfl (ldSA (α := Leg) (k := 2) (off := 13) (i := (Int.toNat s17)) (sz := 2) default Ag91 Sz91 (H.blk (k := 0) rfl) rfl (sgo2 hl_s11 rfl) rfl (by have hl_ := hl_s12; omega) (by omega) rfl)) ?_
      refine d_l rfl ?_
      obtain ⟨r99z, hx98z, hM⟩ := M.e_bind hM
      refine s_call cf83 [.pointer (some ⟨b_w_, 0, none⟩), .agg #[I ((s12.getD (Int.toNat s17) default).line), B ((s12.getD (Int.toNat s17) default).back)]] rfl (level_survey_start_ok w__Net_Marks w__Net_Lines (s12.getD (Int.toNat s17) default) (hC_w__Net_Lines.app _) hs_w__Net_Lines (h_b_w_.app _) hx98z _ (St.give (T := [cBlk b_3 [I s17] 3, cBlk b_2 (List.flatten [[], encF (α := Int) s11, encF (α := Leg) s12, encF (α := Bool) s13]) 164, cBlk b_1 [.pointer (some ⟨b_w_, 0, none⟩)] 111, cMk Ds87z]) H rfl)) ?_
      rintro vq w100z ⟨r4, hr101z, hvq, H2_⟩
      subst hr101z
      subst vq
      try dsimp only at hM
      replace H : St w w100z [cBlk b_3 [I s17] 3, cBlk b_2 (List.flatten [[], encF (α := Int) s11, encF (α := Leg) s12, encF (α := Bool) s13]) 164, cBlk b_1 [.pointer (some ⟨b_w_, 0, none⟩)] 111, cMk Ds87z] R := H.back H2_ rfl
      clear H2_
      refine s_nil ⟨(H.pick [1, 2, 3] (by decide) rfl), ?_⟩
      refine d_l rfl ?_
      refine t_st (k := 0) (b := b_3) (off := 0) (cs := [I s17]) (vs := [I r4]) (cs' := [I r4]) (v := I r4) (L' := [cBlk b_3 [I r4] 3, cBlk b_2 (List.flatten [[], encF (α := Int) s11, encF (α := Leg) s12, encF (α := Bool) s13]) 164, cBlk b_1 [.pointer (some ⟨b_w_, 0, none⟩)] 111, cMk Ds87z]) H rfl rfl rfl Sz3 rfl rfl rfl rfl rfl rfl ?_
      intro w102z H
      refine s_nil ⟨(H.pick [1, 2, 3] (by decide) rfl), ?_⟩
      refine d_nil ?_
      refine WD.of ?_
      refine W.region rfl ?_
      obtain ⟨sd103z, hM⟩ := M.e_grd hM
      simp only [Bool.and_eq_true, decide_eq_true_eq] at sd103z
      refine s_val (x_ari (a := (s18 : Int)) (b := 1) (r := (s18 : Int) + 1) rfl rfl rfl (by omega)) ?_
      refine s_val (x_mv (v := I ((s18 : Int) + 1)) rfl) ?_
      refine s_nil ?_
      exact ⟨m91z, lt92z, r4, s18 + 1, _, upds_of _ _ ⟨rfl, rfl, rfl, rfl, rfl, trivial⟩, M.e_inl hM hN94z, H⟩
     ·replace hM := M.e_f hM c95z
      simp only [decide_eq_true_eq, decide_eq_false_iff_not, beq_iff_eq, bne_iff_ne, beq_eq_false_iff_ne, bne_eq_false_iff_eq, ne_eq, Decidable.not_not] at c95z
      refine WD.of ?_
      refine W.exit ?_
      have hX104z := M.e_inr hM hN94z
      subst hX104z
      replace hM := hk86z
      try dsimp only at hM
      refine WD.seq ?_
      refine WD.of ?_
      refine W.region rfl ?_
      refine s_val (x_as (v := .slice none 0 0) rfl) ?_
      refine s_nil ?_
      refine WD.seq ?_
      refine WD.seq ?_
      refine WD.of ?_
      refine W.region rfl ?_
      refine s_val (x_ld (p := .pointer (some ⟨b_3, 0, none⟩)) (v := I s17) rfl (ldb_sc Sc3 (H.blk (k := 0) rfl) rfl)) ?_
      refine s_val (x_as (v := I s17) rfl) ?_
      refine s_nil ?_
      refine WD.block ?_
      replace H : St w w88z [cOwn (α := Leg) 91 (.slice none 0 0) ([]), cBlk b_3 [I s17] 3, cBlk b_2 (List.flatten [[], encF (α := Int) s11, encF (α := Leg) s12, encF (α := Bool) s13]) 164, cBlk b_1 [.pointer (some ⟨b_w_, 0, none⟩)] 111, cMk Ds87z] R := H.nilOwn (α := Leg) 91
      obtain ⟨ex105z, hi106z, hk107z⟩ := M.e_bind hM
      obtain ⟨m0_, hi106z⟩ := M.e_iter hi106z
      refine WD.loop (fun m Ds108z σ W => ∃ (mark : Int) (l7 : List Leg) (v_l7 : Value) (ρ : Env), σ = upds ρ [(2, .pointer (some ⟨b_1, 0, none⟩)), (5, .pointer (some ⟨b_2, 0, none⟩)), (6, .pointer (some ⟨b_3, 0, none⟩)), (11, v_l7), (12, I mark)] /\ M.iterN (m_level_survey_sinking_b8 w__Net_Marks w__Net_Lines s12 s17) m (mark, l7) = some ex105z /\ St w W [cOwn (α := Leg) 91 v_l7 l7, cBlk b_3 [I s17] 3, cBlk b_2 (List.flatten [[], encF (α := Int) s11, encF (α := Leg) s12, encF (α := Bool) s13]) 164, cBlk b_1 [.pointer (some ⟨b_w_, 0, none⟩)] 111, cMk Ds108z] R) ?_ ?_
      ·exact ⟨_, s17, [], (.slice none 0 0), _, upds_of _ _ ⟨rfl, rfl, rfl, rfl, rfl, trivial⟩, hi106z, H⟩
      ·rintro m111z Ds108z σ w109z ⟨mark, l7, v_l7, ρ, rfl, hI110z, H⟩
       obtain ⟨m112z, lt113z, x114z, hM, hN115z⟩ := M.e_iterN hI110z
       simp only [m_level_survey_sinking_b8] at hM
       clear hI110z
       refine WD.seq ?_
       refine WD.seq ?_
       refine WD.of ?_
       refine W.region rfl ?_
       refine s_val (x_mv (v := v_l7) rfl) ?_
       have hl116z := ((ownSl (H.get (k := 0) rfl))).len_le
       refine s_val (x_lenS T88.und rfl (ownSl (H.get (k := 0) rfl))) ?_
       refine s_val (x_cmp (kd := .i64) (a := (l7.length : Int)) (b := 0) (r := (l7.length : Int) == 0) rfl rfl rfl) ?_
       refine s_val (x_mv (v := B ((l7.length : Int) == 0)) rfl) ?_
       refine g_val (!((l7.length : Int) == 0)) (gy_f rfl) (fun hg => x_mv (v := I mark) rfl) ?_
       refine g_val (!((l7.length : Int) == 0)) (gy_f rfl) (fun hg => x_ld (p := .pointer (some ⟨b_3, 0, none⟩)) (v := I s17) rfl (ldb_sc Sc3 (H.blk (k := 1) rfl) rfl)) ?_
       refine g_val (!((l7.length : Int) == 0)) (gy_f rfl) (fun hg => x_cmp (kd := .i64) (a := mark) (b := s17) (r := mark != s17) (gd_of (c := !((l7.length : Int) == 0)) hg (I mark)) (gd_of (c := !((l7.length : Int) == 0)) hg (I s17)) rfl) ?_
       refine s_val (x_por (b := (l7.length : Int) == 0) (r := mark != s17) rfl rfl (fun hb => gd_of (c := !((l7.length : Int) == 0)) (by first | exact hb | (rw [hb]; rfl) | simp_all) (B (mark != s17)))) ?_
       refine s_nil ?_
       refine WD.cond (((l7.length : Int) == 0) || (mark != s17)) rfl (fun c117z => ?_) (fun c117z => ?_)
       ·replace hM := M.e_t hM c117z
        refine WD.of ?_
        refine W.skip ?_
        refine WD.block ?_
        refine WD.seq ?_
        refine WD.of ?_
        refine W.region rfl ?_
        refine s_val (x_mv (v := I mark) rfl) ?_
        refine s_val (x_fa (a := .pointer (some ⟨b_2, 0, none⟩)) (v := .pointer (some ⟨b_2, 13, none⟩)) rfl (fa_blk (o := 0) Fd164_1 Sz117)) ?_
        obtain ⟨sd118z, hM⟩ := M.e_grd hM
        simp only [Bool.and_eq_true, decide_eq_true_eq] at sd118z
        refine s_val (x_ix (a := .pointer (some ⟨b_2, 13, none⟩)) (b := I mark) (v := .pointer (some ⟨b_2, 13 + Int.toNat mark * 2, none⟩)) rfl rfl (run_indexS Try.underlying117 Sz91 (by omega) (by omega))) ?_
        refine s_val (x_ld (p := .pointer (some ⟨b_2, 13 + Int.toNat mark * 2, none⟩)) (v := .agg #[I ((s12.getD (Int.toNat mark) default).line), B ((s12.getD (Int.toNat mark) default).back)]) rfl (ldSA (α := Leg) (k := 2) (off := 13) (i := (Int.toNat mark)) (sz := 2) default Ag91 Sz91 (H.blk (k := 2) rfl) rfl (sgo2 hl_s11 rfl) rfl (by have hl_ := hl_s12; omega) (by omega) rfl)) ?_
        refine t_alloc (cs := [I 0, B false]) H Al91 rfl ?_
        intro b_8 w119z H
        refine t_st (k := 0) (b := b_8) (off := 0) (cs := [I 0, B false]) (vs := [I ((s12.getD (Int.toNat mark) default).line), B ((s12.getD (Int.toNat mark) default).back)]) (cs' := [I ((s12.getD (Int.toNat mark) default).line), B ((s12.getD (Int.toNat mark) default).back)]) (v := .agg #[I ((s12.getD (Int.toNat mark) default).line), B ((s12.getD (Int.toNat mark) default).back)]) (L' := [cBlk b_8 [I ((s12.getD (Int.toNat mark) default).line), B ((s12.getD (Int.toNat mark) default).back)] 91, cOwn (α := Leg) 91 v_l7 l7, cBlk b_3 [I s17] 3, cBlk b_2 (List.flatten [[], encF (α := Int) s11, encF (α := Leg) s12, encF (α := Bool) s13]) 164, cBlk b_1 [.pointer (some ⟨b_w_, 0, none⟩)] 111, cMk Ds108z]) H rfl rfl rfl Sz91 rfl rfl rfl rfl rfl rfl ?_
        intro w120z H
        refine s_nil ?_
        refine WD.seq ?_
        refine WD.of ?_
        refine W.region rfl ?_
        refine s_val (x_mv (v := v_l7) rfl) ?_
        refine s_val (x_ld (p := .pointer (some ⟨b_8, 0, none⟩)) (v := .agg #[I ((s12.getD (Int.toNat mark) default).line), B ((s12.getD (Int.toNat mark) default).back)]) rfl (ldb_ag (ds := [I ((s12.getD (Int.toNat mark) default).line), B ((s12.getD (Int.toNat mark) default).back)]) Ag91 Sz91 (H.blk (k := 0) rfl) rfl rfl)) ?_
        refine t_bs (α := Leg) T88 [.agg #[I ((s12.getD (Int.toNat mark) default).line), B ((s12.getD (Int.toNat mark) default).back)]] [(s12.getD (Int.toNat mark) default)] H rfl (.cons rfl (Flat.rep_enc _ (s12.getD (Int.toNat mark) default)) <| .nil) rfl rfl rfl ?_
        intro v121z w122z H
        obtain ⟨sd123z, hM⟩ := M.e_grd hM
        simp only [Bool.and_eq_true, decide_eq_true_eq] at sd123z
        refine t_app (α := Leg) (k := 2) (l := l7) (l2 := [(s12.getD (Int.toNat mark) default)]) (l' := l7 ++ ([(s12.getD (Int.toNat mark) default)])) (vy := v121z) T88 rfl H rfl rfl rfl (ownSl (H.get (k := 0) rfl)) (ownLe _ (H.get (k := 0) rfl)) (rfl) (by first | omega | (simp only [List.length_nil] at *; omega)) ?_
        intro v124z w125z H
        replace H : St w w125z [cOwn (α := Leg) 91 v121z ([(s12.getD (Int.toNat mark) default)]), cBlk b_8 [I ((s12.getD (Int.toNat mark) default).line), B ((s12.getD (Int.toNat mark) default).back)] 91, cOwn (α := Leg) 91 v124z (l7 ++ ([(s12.getD (Int.toNat mark) default)])), cBlk b_3 [I s17] 3, cBlk b_2 (List.flatten [[], encF (α := Int) s11, encF (α := Leg) s12, encF (α := Bool) s13]) 164, cBlk b_1 [.pointer (some ⟨b_w_, 0, none⟩)] 111, cMk Ds108z] R := H
        refine s_val (x_as (v := v124z) rfl) ?_
        refine s_nil ?_
        refine WD.of ?_
        refine W.region rfl ?_
        refine s_val (x_ld (p := .pointer (some ⟨b_1, 0, none⟩)) (v := .pointer (some ⟨b_w_, 0, none⟩)) rfl (ldb_sc Sc111 (H.blk (k := 5) rfl) rfl)) ?_
        refine s_val (x_ld (p := .pointer (some ⟨b_8, 0, none⟩)) (v := .agg #[I ((s12.getD (Int.toNat mark) default).line), B ((s12.getD (Int.toNat mark) default).back)]) rfl (ldb_ag (ds := [I ((s12.getD (Int.toNat mark) default).line), B ((s12.getD (Int.toNat mark) default).back)]) Ag91 Sz91 (H.blk (k := 1) rfl) rfl rfl)) ?_
        obtain ⟨r127z, hx126z, hM⟩ := M.e_bind hM
        refine s_call cf83 [.pointer (some ⟨b_w_, 0, none⟩), .agg #[I ((s12.getD (Int.toNat mark) default).line), B ((s12.getD (Int.toNat mark) default).back)]] rfl (level_survey_start_ok w__Net_Marks w__Net_Lines (s12.getD (Int.toNat mark) default) (hC_w__Net_Lines.app _) hs_w__Net_Lines (h_b_w_.app _) hx126z _ (St.give (T := [cOwn (α := Leg) 91 v121z ([(s12.getD (Int.toNat mark) default)]), cBlk b_8 [I ((s12.getD (Int.toNat mark) default).line), B ((s12.getD (Int.toNat mark) default).back)] 91, cOwn (α := Leg) 91 v124z (l7 ++ ([(s12.getD (Int.toNat mark) default)])), cBlk b_3 [I s17] 3, cBlk b_2 (List.flatten [[], encF (α := Int) s11, encF (α := Leg) s12, encF (α := Bool) s13]) 164, cBlk b_1 [.pointer (some ⟨b_w_, 0, none⟩)] 111, cMk Ds108z]) H rfl)) ?_
        rintro vq w128z ⟨r5, hr129z, hvq, H2_⟩
        subst hr129z
        subst vq
        try dsimp only at hM
        replace H : St w w128z [cOwn (α := Leg) 91 v121z ([(s12.getD (Int.toNat mark) default)]), cBlk b_8 [I ((s12.getD (Int.toNat mark) default).line), B ((s12.getD (Int.toNat mark) default).back)] 91, cOwn (α := Leg) 91 v124z (l7 ++ ([(s12.getD (Int.toNat mark) default)])), cBlk b_3 [I s17] 3, cBlk b_2 (List.flatten [[], encF (α := Int) s11, encF (α := Leg) s12, encF (α := Bool) s13]) 164, cBlk b_1 [.pointer (some ⟨b_w_, 0, none⟩)] 111, cMk Ds108z] R := H.back H2_ rfl
        clear H2_
        refine s_val (x_as (v := I r5) rfl) ?_
        refine s_nil ?_
        exact ⟨m112z, lt113z, r5, l7 ++ ([(s12.getD (Int.toNat mark) default)]), v124z, _, upds_of _ _ ⟨rfl, rfl, rfl, rfl, rfl, trivial⟩, M.e_inl hM hN115z, (H.pick [2, 3, 4, 5, 6] (by decide) rfl)⟩
       ·replace hM := M.e_f hM c117z
        refine WD.of ?_
        refine W.exit ?_
        have hX130z := M.e_inr hM hN115z
        subst hX130z
        replace hM := hk107z
        try dsimp only at hM
        refine WD.seq ?_
        refine WD.of ?_
        refine W.region rfl ?_
        refine s_val (x_mv (v := v_l7) rfl) ?_
        obtain ⟨r132z, hx131z, hM⟩ := M.e_bind hM
        refine s_call cf100 [v_l7] rfl (slices_Reverse_level_Leg_ok l7 hx131z _ (St.give (T := [cBlk b_3 [I s17] 3, cBlk b_2 (List.flatten [[], encF (α := Int) s11, encF (α := Leg) s12, encF (α := Bool) s13]) 164, cBlk b_1 [.pointer (some ⟨b_w_, 0, none⟩)] 111, cMk Ds108z]) H rfl)) ?_
        rintro vq w133z ⟨l_s, hr134z, hvq, H2_⟩
        subst hr134z
        subst vq
        try dsimp only at hM
        replace H : St w w133z [cOwn (α := Leg) 91 v_l7 l_s, cBlk b_3 [I s17] 3, cBlk b_2 (List.flatten [[], encF (α := Int) s11, encF (α := Leg) s12, encF (α := Bool) s13]) 164, cBlk b_1 [.pointer (some ⟨b_w_, 0, none⟩)] 111, cMk Ds108z] R := H.back H2_ rfl
        clear H2_
        refine s_nil ?_
        refine WD.seq ?_
        refine WD.of ?_
        refine W.region rfl ?_
        refine s_val (x_mv (v := v_l7) rfl) ?_
        refine s_val (x_as (v := v_l7) rfl) ?_
        refine s_nil ?_
        refine WD.of ?_
        refine W.ret ?_
        refine bodyD_r (H.pick [4, 0, 1, 2, 3] (by decide) rfl) ?_
        intro w135z H
        replace H : St w w135z [cOwn (α := Leg) 91 v_l7 l_s, cBlk b_3 [I s17] 3, cBlk b_2 (List.flatten [[], encF (α := Int) s11, encF (α := Leg) s12, encF (α := Bool) s13]) 164, cBlk b_1 [.pointer (some ⟨b_w_, 0, none⟩)] 111] R := H
        obtain ⟨sd136z, hM⟩ := M.e_grd hM
        simp only [decide_eq_true_eq] at sd136z
        have hr_ := M.e_pure hM
        exact ⟨_, resE_tmp rfl, ⟨l_s, v_l7, hr_, rfl, (H.pick [0] (by decide) rfl), (fun h_ => by rw [h_] at sd136z; simp at sd136z)⟩⟩

def m_level_Loop_b0 (n_Marks : Int) (n_Lines : List Line) (r00 : Int) : (Nat × (List Leg)) -> M ((Nat × (List Leg)) ⊕ ((List Leg) × (List Leg))) := fun (s, l) =>
  bif decide ((s : Int) < n_Marks) then (
  M.bind (m_level_survey_sinking r00 n_Lines (s : Int)) fun r3 =>
  bif !r3.isEmpty then (
  M.pure (.inr (r3, l)))
  else (
  M.grd (decide ((-9223372036854775808 : Int) <= ((s : Int) + 1)) && decide (((s : Int) + 1) <= (9223372036854775807 : Int))) <|
  M.pure (.inl (s + 1, r3))))
  else (
  M.pure (.inr (l, l)))
def m_level_Loop (n_Marks : Int) (n_Lines : List Line) : M ((List Leg) × Int) :=
  M.bind (m_level_opened n_Marks n_Lines) fun x_ => match x_ with
  | (.inl r1) => (
  bif r1 != 0 then (
  M.pure (([]), r1))
  else (
  M.fail))
  | (.inr (r00, r02, r03, r12)) => (
  bif r12 != 0 then (
  M.fail)
  else (
  M.bind (m_level_survey_open r00 n_Lines r02 r03) fun r2 =>
  bif !r2 then (
  M.pure (([]), 5))
  else (
  M.bind (M.iter (m_level_Loop_b0 n_Marks n_Lines r00) (0, [])) fun (l2, l3) =>
  M.pure (l2, 0))))
theorem level_Loop_ok {R : List Chunk} {C_n_Lines : Cells} {v_n_Lines : Value} (n_Marks : Int) (n_Lines : List Line) (hC_n_Lines : Reads R C_n_Lines) (hs_n_Lines : Sl C_n_Lines v_n_Lines n_Lines) {r : ((List Leg) × Int)} (hM : (m_level_Loop n_Marks n_Lines).Ends r) (w : World) (H : St w w [] R) : Ret Try.prog 50 #[.agg #[I n_Marks, v_n_Lines]] w fun v w' => ∃ (y0 : List Leg) (y1 : Int) (u0 : Value), (y0, y1) = r /\ v = .tuple #[u0, I y1] /\ St w w' [cOwn (α := Leg) 91 u0 y0] R := by
 refine ret_of_W Try.func50 rfl rfl rfl ?_
 refine W.seq ?_
 refine W.region rfl ?_
 refine t_box (v := .agg #[I n_Marks, v_n_Lines]) (cs := [I n_Marks, v_n_Lines]) H rfl rfl ?_
 intro b_1 w1z H
 refine s_val (x_as (v := .slice none 0 0) rfl) ?_
 refine s_val (x_as (v := I 0) rfl) ?_
 refine s_nil ?_
 refine W.scope ?_
 refine W.seq ?_
 refine W.region rfl ?_
 refine s_val (x_ld (p := .pointer (some ⟨b_1, 0, none⟩)) (v := .agg #[I n_Marks, v_n_Lines]) rfl (ldb_ag (ds := [I n_Marks, v_n_Lines]) Ag25 Sz25 (H.blk (k := 0) rfl) rfl rfl)) ?_
 obtain ⟨r3z, hx2z, hM⟩ := M.e_bind hM
 refine s_call cf59 [.agg #[I n_Marks, v_n_Lines]] rfl (level_opened_ok n_Marks n_Lines (hC_n_Lines.app _) hs_n_Lines hx2z _ (St.give (T := [cBlk b_1 [I n_Marks, v_n_Lines] 25]) H rfl)) ?_
 rintro vq w4z (⟨r1, hr5z, hvq, H2_⟩ | ⟨r00, r02, r03, r12, nb0_2, hr6z, hvq, H2_, hf7z, hf8z⟩)
 ·subst hr5z
  subst vq
  try dsimp only at hM
  replace H : St w w4z [cBlk b_1 [I n_Marks, v_n_Lines] 25] R := H.back H2_ rfl
  clear H2_
  refine s_val (x_mv (v := .tuple #[.pointer none, I r1]) rfl) ?_
  refine s_val (x_ext (vs := [.pointer none, I r1]) (v := .pointer none) rfl rfl) ?_
  refine s_val (x_ext (vs := [.pointer none, I r1]) (v := I r1) rfl rfl) ?_
  refine s_val (x_as (v := .pointer none) rfl) ?_
  refine s_val (x_as (v := I r1) rfl) ?_
  refine s_nil ?_
  refine W.seq ?_
  refine W.block ?_
  refine W.seq ?_
  refine W.region rfl ?_
  refine s_val (x_mv (v := I r1) rfl) ?_
  refine s_val (x_cmp (kd := .i64) (a := r1) (b := 0) (r := r1 != 0) rfl rfl rfl) ?_
  refine s_val (x_as (v := B (r1 != 0)) rfl) ?_
  refine s_nil ?_
  refine W.cond (r1 != 0) rfl (fun c9z => ?_) (fun c9z => ?_)
  ·replace hM := M.e_t hM c9z
   simp only [decide_eq_true_eq, decide_eq_false_iff_not, beq_iff_eq, bne_iff_ne, beq_eq_false_iff_ne, bne_eq_false_iff_eq, ne_eq, Decidable.not_not] at c9z
   refine W.seq ?_
   refine W.region rfl ?_
   refine s_val (x_mv (v := I r1) rfl) ?_
   refine s_val (x_as (v := .slice none 0 0) rfl) ?_
   refine s_val (x_as (v := I r1) rfl) ?_
   refine s_nil ?_
   refine W.ret ?_
   have hr_ := M.e_pure hM
   replace H : St w w4z [cOwn (α := Leg) 91 (.slice none 0 0) ([]), cBlk b_1 [I n_Marks, v_n_Lines] 25] R := H.nilOwn (α := Leg) 91
   exact ⟨_, resE_tmp2 rfl, ⟨([]), r1, (.slice none 0 0), hr_, rfl, (H.pick [0] (by decide) rfl)⟩⟩
  ·replace hM := M.e_f hM c9z
   exact (M.e_fail hM).elim
 ·subst hr6z
  subst vq
  try dsimp only at hM
  replace H : St w w4z [cBlk nb0_2 (List.flatten [[I r00, v_n_Lines], encF (α := Int) r02, encF (α := Leg) r03]) 120, cBlk b_1 [I n_Marks, v_n_Lines] 25] R := H.back H2_ rfl
  clear H2_
  refine s_val (x_mv (v := .tuple #[.pointer (some ⟨nb0_2, 0, none⟩), I r12]) rfl) ?_
  refine s_val (x_ext (vs := [.pointer (some ⟨nb0_2, 0, none⟩), I r12]) (v := .pointer (some ⟨nb0_2, 0, none⟩)) rfl rfl) ?_
  refine s_val (x_ext (vs := [.pointer (some ⟨nb0_2, 0, none⟩), I r12]) (v := I r12) rfl rfl) ?_
  refine s_val (x_as (v := .pointer (some ⟨nb0_2, 0, none⟩)) rfl) ?_
  refine s_val (x_as (v := I r12) rfl) ?_
  refine s_nil ?_
  refine W.seq ?_
  refine W.block ?_
  refine W.seq ?_
  refine W.region rfl ?_
  refine s_val (x_mv (v := I r12) rfl) ?_
  refine s_val (x_cmp (kd := .i64) (a := r12) (b := 0) (r := r12 != 0) rfl rfl rfl) ?_
  refine s_val (x_as (v := B (r12 != 0)) rfl) ?_
  refine s_nil ?_
  refine W.cond (r12 != 0) rfl (fun c10z => ?_) (fun c10z => ?_)
  ·replace hM := M.e_t hM c10z
   exact (M.e_fail hM).elim
  ·replace hM := M.e_f hM c10z
   simp only [decide_eq_true_eq, decide_eq_false_iff_not, beq_iff_eq, bne_iff_ne, beq_eq_false_iff_ne, bne_eq_false_iff_eq, ne_eq, Decidable.not_not] at c10z
   refine W.seq ?_
   refine W.region rfl ?_
   refine s_val (x_mv (v := .pointer (some ⟨nb0_2, 0, none⟩)) rfl) ?_
   obtain ⟨r12z, hx11z, hM⟩ := M.e_bind hM
   refine s_call cf60 [.pointer (some ⟨nb0_2, 0, none⟩)] rfl (level_survey_open_ok r00 n_Lines r02 r03 (hC_n_Lines.app _) hs_n_Lines hf7z hf8z (Has.here (k := 0) rfl) hx11z _ (St.give (T := [cBlk nb0_2 (List.flatten [[I r00, v_n_Lines], encF (α := Int) r02, encF (α := Leg) r03]) 120, cBlk b_1 [I n_Marks, v_n_Lines] 25]) H rfl)) ?_
   rintro vq w13z ⟨r2, hr14z, hvq, H2_⟩
   subst hr14z
   subst vq
   try dsimp only at hM
   replace H : St w w13z [cBlk nb0_2 (List.flatten [[I r00, v_n_Lines], encF (α := Int) r02, encF (α := Leg) r03]) 120, cBlk b_1 [I n_Marks, v_n_Lines] 25] R := H.back H2_ rfl
   clear H2_
   refine s_val (x_not (b := r2) rfl) ?_
   refine s_val (x_as (v := B (!r2)) rfl) ?_
   refine s_nil ?_
   refine W.cond (!r2) rfl (fun c15z => ?_) (fun c15z => ?_)
   ·replace hM := M.e_t hM c15z
    refine W.seq ?_
    refine W.region rfl ?_
    refine s_val (x_as (v := .slice none 0 0) rfl) ?_
    refine s_val (x_as (v := I 5) rfl) ?_
    refine s_nil ?_
    refine W.ret ?_
    have hr_ := M.e_pure hM
    replace H : St w w13z [cOwn (α := Leg) 91 (.slice none 0 0) ([]), cBlk nb0_2 (List.flatten [[I r00, v_n_Lines], encF (α := Int) r02, encF (α := Leg) r03]) 120, cBlk b_1 [I n_Marks, v_n_Lines] 25] R := H.nilOwn (α := Leg) 91
    exact ⟨_, resE_tmp2 rfl, ⟨([]), 5, (.slice none 0 0), hr_, rfl, (H.pick [0] (by decide) rfl)⟩⟩
   ·replace hM := M.e_f hM c15z
    refine W.skip ?_
    refine W.seq ?_
    refine W.region rfl ?_
    refine s_val (x_as (v := .slice none 0 0) rfl) ?_
    refine s_nil ?_
    refine W.seq ?_
    refine W.label ?_
    refine W.seq ?_
    refine W.seq ?_
    refine W.region rfl ?_
    refine s_val (x_fa (a := .pointer (some ⟨b_1, 0, none⟩)) (v := .pointer (some ⟨b_1, 0, none⟩)) rfl (fa_blk (o := 0) Fd25_0 Sz3)) ?_
    refine s_val (x_ld (p := .pointer (some ⟨b_1, 0, none⟩)) (v := I n_Marks) rfl (ldb_sc Sc3 (H.blk (k := 1) rfl) rfl)) ?_
    refine s_val (x_mv (v := I 0) rfl) ?_
    refine s_nil ?_
    refine W.block ?_
    replace H : St w w13z [cOwn (α := Leg) 91 (.slice none 0 0) ([]), cBlk nb0_2 (List.flatten [[I r00, v_n_Lines], encF (α := Int) r02, encF (α := Leg) r03]) 120, cBlk b_1 [I n_Marks, v_n_Lines] 25] R := H.nilOwn (α := Leg) 91
    obtain ⟨ex16z, hi17z, hk18z⟩ := M.e_bind hM
    obtain ⟨m0_, hi17z⟩ := M.e_iter hi17z
    refine W.loop (fun m σ W => ∃ (s : Nat) (l : List Leg) (v_l : Value) (ρ : Env), σ = upds ρ [(4, .pointer (some ⟨nb0_2, 0, none⟩)), (6, v_l), (22, I n_Marks), (23, I (s : Int))] /\ M.iterN (m_level_Loop_b0 n_Marks n_Lines r00) m (s, l) = some ex16z /\ St w W [cOwn (α := Leg) 91 v_l l, cBlk nb0_2 (List.flatten [[I r00, v_n_Lines], encF (α := Int) r02, encF (α := Leg) r03]) 120, cBlk b_1 [I n_Marks, v_n_Lines] 25] R) ?_ ?_
    ·exact ⟨_, 0, [], (.slice none 0 0), _, upds_of _ _ ⟨rfl, rfl, rfl, rfl, trivial⟩, hi17z, H⟩
    ·rintro m21z σ w19z ⟨s, l, v_l, ρ, rfl, hI20z, H⟩
     obtain ⟨m22z, lt23z, x24z, hM, hN25z⟩ := M.e_iterN hI20z
     simp only [m_level_Loop_b0] at hM
     clear hI20z
     refine W.seq ?_
     refine W.region rfl ?_
     refine s_val (x_cmp (kd := .i64) (a := (s : Int)) (b := n_Marks) (r := decide ((s : Int) < n_Marks)) rfl rfl rfl) ?_
     refine s_nil ?_
     refine W.seq ?_
     refine W.cond (decide ((s : Int) < n_Marks)) rfl (fun c26z => ?_) (fun c26z => ?_)
     ·replace hM := M.e_t hM c26z
      simp only [decide_eq_true_eq, decide_eq_false_iff_not, beq_iff_eq, bne_iff_ne, beq_eq_false_iff_ne, bne_eq_false_iff_eq, ne_eq, Decidable.not_not] at c26z
      refine W.skip ?_
      refine W.seq ?_
      refine W.block ?_
      refine W.seq ?_
      refine W.region rfl ?_
      refine s_val (x_mv (v := I (s : Int)) rfl) ?_
      refine s_val (x_as (v := I (s : Int)) rfl) ?_
      refine s_nil ?_
      refine W.seq ?_
      refine W.region rfl ?_
      refine s_val (x_mv (v := .pointer (some ⟨nb0_2, 0, none⟩)) rfl) ?_
      refine s_val (x_mv (v := I (s : Int)) rfl) ?_
      obtain ⟨r28z, hx27z, hM⟩ := M.e_bind hM
      refine s_call cf87 [.pointer (some ⟨nb0_2, 0, none⟩), I (s : Int)] rfl (level_survey_sinking_ok r00 n_Lines (s : Int) (hC_n_Lines.app _) hs_n_Lines (Fld.here (k := 1) rfl rfl) hx27z _ (St.give (T := [cOwn (α := Leg) 91 v_l l, cBlk nb0_2 (List.flatten [[I r00, v_n_Lines], encF (α := Int) r02, encF (α := Leg) r03]) 120, cBlk b_1 [I n_Marks, v_n_Lines] 25]) H rfl)) ?_
      rintro vq w29z ⟨r3, u0_3, hr30z, hvq, H2_, hf31z⟩
      subst hr30z
      subst vq
      try dsimp only at hM
      replace H : St w w29z [cOwn (α := Leg) 91 u0_3 r3, cOwn (α := Leg) 91 v_l l, cBlk nb0_2 (List.flatten [[I r00, v_n_Lines], encF (α := Int) r02, encF (α := Leg) r03]) 120, cBlk b_1 [I n_Marks, v_n_Lines] 25] R := H.back H2_ rfl
      clear H2_
      refine s_val (x_as (v := u0_3) rfl) ?_
      refine s_nil ?_
      refine W.seq ?_
      refine W.region rfl ?_
      refine s_val (x_mv (v := u0_3) rfl) ?_
      refine s_val (x_nenil (α := Leg) T88.und rfl rfl (ownSl (H.get (k := 0) rfl)) hf31z) ?_
      refine s_nil ?_
      refine W.cond (!r3.isEmpty) rfl (fun c32z => ?_) (fun c32z => ?_)
      ·replace hM := M.e_t hM c32z
       refine W.exit ?_
       have hX33z := M.e_inr hM hN25z
       subst hX33z
       replace hM := hk18z
       try dsimp only at hM
       refine W.seq ?_
       refine W.region rfl ?_
       refine s_val (x_mv (v := u0_3) rfl) ?_
       refine s_val (x_as (v := u0_3) rfl) ?_
       refine s_val (x_as (v := I 0) rfl) ?_
       refine s_nil ?_
       refine W.ret ?_
       have hr_ := M.e_pure hM
       exact ⟨_, resE_tmp2 rfl, ⟨r3, 0, u0_3, hr_, rfl, (H.pick [0] (by decide) rfl)⟩⟩
      ·replace hM := M.e_f hM c32z
       refine W.skip ?_
       refine W.region rfl ?_
       obtain ⟨sd34z, hM⟩ := M.e_grd hM
       simp only [Bool.and_eq_true, decide_eq_true_eq] at sd34z
       refine s_val (x_ari (a := (s : Int)) (b := 1) (r := (s : Int) + 1) rfl rfl rfl (by omega)) ?_
       refine s_val (x_mv (v := I ((s : Int) + 1)) rfl) ?_
       refine s_nil ?_
       exact ⟨m22z, lt23z, s + 1, r3, u0_3, _, upds_of _ _ ⟨rfl, rfl, rfl, rfl, trivial⟩, M.e_inl hM hN25z, (H.pick [0, 2, 3] (by decide) rfl)⟩
     ·replace hM := M.e_f hM c26z
      simp only [decide_eq_true_eq, decide_eq_false_iff_not, beq_iff_eq, bne_iff_ne, beq_eq_false_iff_ne, bne_eq_false_iff_eq, ne_eq, Decidable.not_not] at c26z
      refine W.exit ?_
      have hX35z := M.e_inr hM hN25z
      subst hX35z
      replace hM := hk18z
      try dsimp only at hM
      refine W.seq ?_
      refine W.region rfl ?_
      refine s_val (x_mv (v := v_l) rfl) ?_
      refine s_val (x_as (v := v_l) rfl) ?_
      refine s_val (x_as (v := I 0) rfl) ?_
      refine s_nil ?_
      refine W.ret ?_
      have hr_ := M.e_pure hM
      exact ⟨_, resE_tmp2 rfl, ⟨l, 0, v_l, hr_, rfl, (H.pick [0] (by decide) rfl)⟩⟩

end Go.Proofs.Ytclhljenjphofaa
end
namespace Go.Nm
open Go
section
variable {P : Program} {w : World}
/-- Elements are appended where there is room. -/
theorem app_room {α : Type} [Flat α] {t ty e by' : Nat} {z : Value} (T : SlT P t e (Elt.sz α) by' z) {g cap : Nat} {cur : Array Value} {l l2 : List α} (hg : w.heap[g]? = some (.cells cur e (0, 0))) (hcs : cur.size = cap * Elt.sz α)
    (hroom : l.length + l2.length <= cap) (htake : cur.toList.take (l.length * Elt.sz α) = l.flatMap Flat.enc) {C : Cells} {vy : Value} (hs : Sl C vy l2) (hle : C.Le w.cell?) :
    ∃ cs : Array Value, (Builtin.append_ #[t, t] ty #[.slice (some ⟨g, 0, none⟩) l.length cap, vy]).run P w = .ok (.slice (some ⟨g, 0, none⟩) (l.length + l2.length) cap) (w.setRow g cs) /\ cs.size = cur.size /\ cs.toList.take ((l.length + l2.length) * Elt.sz α) = (l ++ l2).flatMap Flat.enc := by
  obtain ⟨i, hi, hz, hsz, hby⟩ := T.parts
  by_cases h0 : l2 = []
  · subst h0
    obtain ⟨a, c, hv⟩ := hs.slen
    simp only [List.length_nil] at hv
    subst hv
    refine ⟨cur, ?_, rfl, by simpa using htake⟩
    rw [setRow_self w g cur e (0, 0) hg]
    have hl0 : (loadCells (a.getD ⟨0, 0, none⟩) 0).run P w = .ok #[] w := rfl
    have hcap : l.length <= cap := by omega
    cases a <;> simp [Builtin.append_, run_underlying T.und, sizeOf, typeInfo, hi, Builtin.lenOf, Builtin.firstCells, loadCells, loadCellsFrom, hcap, storeCells]
  · obtain ⟨a, c, hvy, hlc, hcm, hh⟩ := hs.ex
    have hpos : 0 < l2.length := List.length_pos_iff.2 h0
    obtain ⟨b, o, cs0, ha, _, _⟩ := hh 0 l2[0] (by simp)
    subst ha
    have hnews : ∀ j u, (l2.flatMap Flat.enc : List Value)[j]? = some u -> w.cell? ((⟨b, o, none⟩ : Addr).add j) = some u := by
      intro j u hj
      obtain ⟨k, x, r, hk, hr, hjk⟩ := flat_inv l2 j u hj
      obtain ⟨b', o', cs, hab, hrep, hy⟩ := hh k x hk
      have hcs := Flat.rep_iff.1 hrep
      subst hcs
      simp only [Option.some.injEq, Addr.mk.injEq, and_true] at hab
      obtain ⟨rfl, rfl⟩ := hab
      rw [add_lit, hjk]
      have := hle _ _ (hy r u hr)
      rwa [Nat.add_assoc] at this
    have hl2 := flat_len l2
    have hfit : l.length * i.size + (l2.flatMap Flat.enc : List Value).length <= cur.size := by rw [hl2, hcs, hsz, ← Nat.add_mul]; exact Nat.mul_le_mul_right _ hroom
    have hr := run_append_room (P := P) w t ty e i T.und hi g l.length cap cur hg ⟨b, o, none⟩ l2.length c (l2.flatMap Flat.enc) (by rw [hl2, hsz]) hnews (flat_one l2) hroom hfit
    rw [← hvy] at hr
    refine ⟨_, hr, ?_, ?_⟩
    · rw [hsz] at hfit ⊢
      simp only [List.size_toArray, List.length_append, List.length_take, List.length_drop, Array.length_toList]
      omega
    · rw [hsz, List.flatMap_append]
      have e1 : (cur.toList.take (l.length * Elt.sz α) ++ l2.flatMap Flat.enc).length = (l.length + l2.length) * Elt.sz α := by
        rw [htake, List.length_append, flat_len, flat_len, Nat.add_mul]
      show (cur.toList.take (l.length * Elt.sz α) ++ l2.flatMap Flat.enc ++ _).take _ = _
      rw [← e1, List.take_left, htake]
/-- What lies behind a part of a row is made zero. -/
theorem clear_behind {t ty e sz by' : Nat} {z : Value} (T : SlT P t e sz by' z) (h1 : ∀ u ∈ z.cells.toList, u.oneCell' = true) {g m n c cap : Nat} {cur : Array Value} (hg : w.heap[g]? = some (.cells cur e (0, 0))) (hmn : m + n <= cap) (hcs : cur.size = cap * sz) (a : Option Addr)
    (ha : 0 < n -> a = some ⟨g, m * sz, none⟩) :
    ∃ cs : Array Value, (Builtin.clear_ #[t] ty #[.slice a n c]).run P w = .ok (.tuple #[]) (w.setRow g cs) /\ cs.size = cur.size /\ cs.toList.take (m * sz) = cur.toList.take (m * sz) := by
  obtain ⟨i, hi, hz, hsz, hby⟩ := T.parts
  cases n with
  | zero =>
    refine ⟨cur, ?_, rfl, rfl⟩
    rw [setRow_self w g cur e (0, 0) hg]
    cases a <;> simp [Builtin.clear_, run_underlying T.und]
  | succ n =>
    obtain rfl := ha (by omega)
    have hzv : ∀ w, (zeroValue e).run P w = .ok z w := fun w => by simp [zeroValue, typeInfo, hi, hz]
    have hl : (Builtin.zeroCells z.cells (n + 1)).toList.length = (n + 1) * sz := by rw [Array.length_toList, size_zeroCells, T.zs]
    have hle : (m + (n + 1)) * sz <= cap * sz := Nat.mul_le_mul_right _ hmn
    rw [Nat.add_mul] at hle
    have hst := run_storeCells_at P g (m * sz) e (Builtin.zeroCells z.cells (n + 1)).toList 0 cur w hg (by rw [hl, hcs]; simp only [Nat.add_zero]; exact hle) (by
      intro v hv
      have hp := T.pos
      rw [← T.zs] at hp
      simp only [Builtin.zeroCells, Array.toList_map, List.mem_map] at hv
      obtain ⟨k, _, rfl⟩ := hv
      have hk := Nat.mod_lt k hp
      rw [getElem!_pos z.cells _ hk]
      exact h1 _ (by simp))
    simp only [Nat.add_zero] at hst
    have q3 : ((cur.toList.take (m * sz) ++ (Builtin.zeroCells z.cells (n + 1)).toList ++ cur.toList.drop (m * sz + (Builtin.zeroCells z.cells (n + 1)).toList.length)).toArray).toList.take (m * sz) = cur.toList.take (m * sz) := by
      show (cur.toList.take (m * sz) ++ _ ++ _).take (m * sz) = _
      rw [List.append_assoc]
      exact List.take_left' (by rw [List.length_take, Array.length_toList]; omega)
    have q2 : ((cur.toList.take (m * sz) ++ (Builtin.zeroCells z.cells (n + 1)).toList ++ cur.toList.drop (m * sz + (Builtin.zeroCells z.cells (n + 1)).toList.length)).toArray).size = cur.size := by
      simp only [List.size_toArray, List.length_append, List.length_take, List.length_drop, Array.length_toList] at hl ⊢
      omega
    refine ⟨_, ?_, q2, q3⟩
    generalize w.setRow g (cur.toList.take (m * sz) ++ (Builtin.zeroCells z.cells (n + 1)).toList ++ cur.toList.drop (m * sz + (Builtin.zeroCells z.cells (n + 1)).toList.length)).toArray = W2 at hst ⊢
    simp [Builtin.clear_, run_underlying T.und, hzv]
    rw [hst]
    rfl
theorem s_clear {all rest : List Oper} {Q : Post} {σ : Env} {pos : String} {af : Array Edge} {t : TypeId} {x : Operand} {v : Value} {w' : World} (hx : ev σ x = v) (h : ∀ ty, (Builtin.clear_ #[t] ty #[v]).run P w = .ok (.tuple #[]) w') (k : SL P all Q rest σ w') :
    SL P all Q (⟨none, .call ⟨.builtin .clear, #[x], #[t]⟩, 0, pos, af, none⟩ :: rest) σ w := by
  refine s_any (v := .tuple #[]) (w' := w') ?_ k
  simp [execOp, resolve, invoke, builtin, hx, h]
theorem s_append {all rest : List Oper} {Q : Post} {σ : Env} {d : Nat} {ty : TypeId} {pos : String} {af : Array Edge} {t : TypeId} {x y : Operand} {v vy v' : Value} {w' : World} (hx : ev σ x = v) (hy : ev σ y = vy) (hr : (Builtin.append_ #[t, t] ty #[v, vy]).run P w = .ok v' w')
    (k : SL P all Q rest (upd σ d v') w') : SL P all Q (⟨some d, .call ⟨.builtin .append, #[x, y], #[t, t]⟩, ty, pos, af, none⟩ :: rest) σ w := by
  refine s_any (v := v') (w' := w') ?_ k
  simp [execOp, resolve, invoke, builtin, hx, hy, hr]
theorem slice3 {t e : TypeId} {sz : Nat} (hu : P.underlying t = some (.slice e)) (hs : (P.info? e).map (·.size) = some sz) {a : Option Addr} {n c i j : Nat} (h1 : i <= j) (h2 : j <= n) (h3 : n <= c) : ∃ u, (Instr.sliceAt t (.slice a n c) (some (I i)) (some (I j)) (some (I n))).run P w = .ok u w := by
  refine ⟨.slice (if n = i then a else a.map (·.add (i * sz))) (j - i) (n - i), ?_⟩
  simp [Instr.sliceAt, Instr.slice, Instr.sliceBounds, Instr.sliceBound, asIntOf, run_underlying hu, run_sizeOf hs]
  rw [if_pos (by omega), if_pos (by omega), if_pos (by omega)]
theorem slice_hi {t e : TypeId} {sz : Nat} (hu : P.underlying t = some (.slice e)) (hs : (P.info? e).map (·.size) = some sz) {g n c i : Nat} (h2 : i <= n) (h3 : n <= c) : (Instr.sliceAt t (.slice (some ⟨g, 0, none⟩) n c) none (some (I i)) none).run P w = .ok (.slice (some ⟨g, 0, none⟩) i c) w := by
  have e1 : i <= c := Nat.le_trans h2 h3
  simp [Instr.sliceAt, Instr.slice, Instr.sliceBounds, Instr.sliceBound, asIntOf, run_underlying hu, run_sizeOf hs, Addr.add]
  intro h
  omega
theorem slice_lohi {t e : TypeId} {sz : Nat} (hu : P.underlying t = some (.slice e)) (hs : (P.info? e).map (·.size) = some sz) {g n c i j : Nat} (h2 : i <= j) (h3 : j <= c) : ∃ a c', (Instr.sliceAt t (.slice (some ⟨g, 0, none⟩) n c) (some (I i)) (some (I j)) none).run P w = .ok (.slice a (j - i) c') w /\ (i < j -> a = some ⟨g, i * sz, none⟩) := by
  refine ⟨if c = i then some ⟨g, 0, none⟩ else some ⟨g, i * sz, none⟩, c - i, ?_, fun h => by rw [if_neg (by omega)]⟩
  simp [Instr.sliceAt, Instr.slice, Instr.sliceBounds, Instr.sliceBound, asIntOf, run_underlying hu, run_sizeOf hs]
  rw [if_pos (by omega), if_pos (by omega)]
  simp only [Addr.add]
  by_cases h : i * sz = 0
  · simp [h]
  · simp [h]
end
end Go.Nm
namespace Go.Proofs.Ytclhljenjphofaa
open Go Go.Nm
set_option maxRecDepth 100000 in
theorem delete_any {B : Nat} {w : World} {v : Value} {l : List Line} (ho : OwnF B 34 w v l) {i j : Int} (h0 : 0 <= i) (hij : i < j) (hj : j <= l.length) :
    Ret Try.prog 52 #[v, I i, I j] w fun u w' => OwnF B 34 w' u (l.take i.toNat ++ l.drop j.toNat) /\ Grow B v w w' /\ u.ownBlock = v.ownBlock := by
  obtain ⟨i, rfl⟩ := Int.eq_ofNat_of_zero_le h0
  obtain ⟨j, rfl⟩ := Int.eq_ofNat_of_zero_le (show 0 <= j by omega)
  rw [Int.toNat_natCast, Int.toNat_natCast]
  have ho' := ho
  rcases ho.2 with ⟨rfl, hn⟩ | ⟨g, cap, cur, rfl, hb, hg, hc, hm, hcs, htake⟩
  · omega
  · have hij' : i < j := by omega
    have hj' : j <= l.length := by omega
    have hsz : Elt.sz Line = 5 := rfl
    obtain ⟨u3, r3⟩ := slice3 (P := Try.prog) (w := w) (a := some ⟨g, 0, none⟩) T23.und T23.size (show i <= j by omega) hj' hc
    refine ret_of_W Try.func52 rfl rfl rfl ?_
    refine W.seq ?_
    refine W.region rfl ?_
    refine s_val (x_as (v := .slice none 0 0) rfl) ?_
    refine s_nil ?_
    refine W.seq ?_
    refine W.region rfl ?_
    refine s_val (x_mv (v := .slice (some ⟨g, 0, none⟩) l.length cap) rfl) ?_
    refine s_val (x_mv (v := I i) rfl) ?_
    refine s_val (x_mv (v := I j) rfl) ?_
    refine s_val (x_mv (v := .slice (some ⟨g, 0, none⟩) l.length cap) rfl) ?_
    refine s_val (x_len (n := l.length) T23.und rfl) ?_
    refine s_val (x_sl rfl rfl rfl rfl r3) ?_
    refine s_nil ?_
    refine W.seq ?_
    refine W.seq ?_
    refine W.region rfl ?_
    refine s_val (x_mv (v := I i) rfl) ?_
    refine s_val (x_mv (v := I j) rfl) ?_
    refine s_val (x_cmp (kd := .i64) (a := i) (b := j) (r := (i : Int) == j) rfl rfl rfl) ?_
    refine s_nil ?_
    refine W.cond ((i : Int) == j) rfl (fun h => absurd (beq_iff_eq.1 h) (by omega)) (fun _ => ?_)
    refine W.skip ?_
    refine W.seq ?_
    refine W.region rfl ?_
    refine s_val (x_mv (v := .slice (some ⟨g, 0, none⟩) l.length cap) rfl) ?_
    refine s_val (x_len (n := l.length) T23.und rfl) ?_
    refine s_val (x_as (v := I l.length) rfl) ?_
    refine s_nil ?_
    refine W.seq ?_
    refine W.drawT (fun _ => True) (.q 0 (.q 1 (.q 2 (.q 3 (.q 4 (.q 5 (.l 6 (.l 7 .nil)))))))) mixed (by decide +kernel) rfl ?_
    intro w1 hx
    refine ⟨trivial, ?_⟩
    have hg0 : w1.heap[g]? = some (.cells cur 34 (0, 0)) := (hx.blk g (heap_lt hg)).trans hg
    have ho1 : OwnF B 34 w1 (.slice (some ⟨g, 0, none⟩) l.length cap) l := ho.ext hx
    obtain ⟨u2, r2, s2⟩ := sl_lo (P := Try.prog) T23.und T23.size ho1.sl (i := (j : Int)) (by omega) (by omega)
    rw [Int.toNat_natCast] at s2
    have hl1 : (l.take i).length = i := by rw [List.length_take]; omega
    have ht1 : cur.toList.take ((l.take i).length * Elt.sz Line) = (l.take i).flatMap Flat.enc := by
      have e1 : ((l.take i).flatMap Flat.enc : List Value).length = i * Elt.sz Line := by rw [flat_len, hl1]
      have e2 : (l.flatMap Flat.enc : List Value) = (l.take i).flatMap Flat.enc ++ (l.drop i).flatMap Flat.enc := by rw [← List.flatMap_append, List.take_append_drop]
      rw [hl1, ← e1]
      have e3 : cur.toList.take ((l.take i).flatMap Flat.enc : List Value).length = (cur.toList.take (l.length * Elt.sz Line)).take ((l.take i).flatMap Flat.enc : List Value).length := by
        rw [List.take_take, e1, Nat.min_eq_left (Nat.mul_le_mul_right _ (by omega))]
      rw [e3, htake, e2, List.take_left]
    obtain ⟨cs, ra, rs, rt⟩ := app_room (P := Try.prog) (ty := 23) T23 (l := l.take i) (l2 := l.drop j) hg0 hcs (by rw [hl1, List.length_drop]; omega) ht1 s2 (frm_le _ _)
    rw [hl1] at ra
    have hl2 : i + (l.drop j).length = l.length - (j - i) := by rw [List.length_drop]; omega
    have hl3 : (l.take i ++ l.drop j).length = l.length - (j - i) := by rw [List.length_append, hl1, hl2]
    rw [hl2] at ra
    rw [hl1, hl2] at rt
    have hg1 := setRow_heap w1 g cur cs 34 (0, 0) hg0
    obtain ⟨a4, c4, r4, ha4⟩ := slice_lohi (P := Try.prog) (w := w1.setRow g cs) (g := g) (n := l.length - (j - i)) (c := cap) (i := l.length - (j - i)) (j := l.length) T23.und T23.size (by omega) hc
    obtain ⟨cs2, rc, rs2, rt2⟩ : ∃ cs2 : Array Value, (∀ ty, (Builtin.clear_ #[23] ty #[.slice a4 (l.length - (l.length - (j - i))) c4]).run Try.prog (w1.setRow g cs) = .ok (.tuple #[]) ((w1.setRow g cs).setRow g cs2)) /\ cs2.size = cs.size /\ cs2.toList.take ((l.length - (j - i)) * 5) = cs.toList.take ((l.length - (j - i)) * 5) := by
      obtain ⟨cs2, h1, h2, h3⟩ := clear_behind (P := Try.prog) (ty := 0) T23 (by decide) hg1 (m := l.length - (j - i)) (n := l.length - (l.length - (j - i))) (c := c4) (cap := cap) (by omega) (by rw [rs, hcs, hsz]) a4 (fun h => ha4 (by omega))
      exact ⟨cs2, fun _ => h1, h2, h3⟩
    have hg2 := setRow_heap (w1.setRow g cs) g cs cs2 34 (0, 0) hg1
    refine t_q rfl (fun _ _ => x_mv (v := .slice (some ⟨g, 0, none⟩) l.length cap) rfl) ?_
    refine t_q rfl (fun _ _ => x_mv (v := I i) rfl) ?_
    refine t_q rfl (fun w' _ => x_sl (v := .slice (some ⟨g, 0, none⟩) l.length cap) rfl rfl rfl rfl (slice_hi (w := w') (i := i) T23.und T23.size (by omega) hc)) ?_
    refine t_q rfl (fun _ _ => x_mv (v := .slice (some ⟨g, 0, none⟩) l.length cap) rfl) ?_
    refine t_q rfl (fun _ _ => x_mv (v := I j) rfl) ?_
    refine t_q rfl (fun w' _ => x_sl (v := .slice (some ⟨g, 0, none⟩) l.length cap) rfl rfl rfl rfl (r2 w')) ?_
    refine t_l rfl ?_
    refine s_append rfl rfl ra ?_
    refine s_nil ?_
    refine ⟨trivial, ?_⟩
    refine t_l rfl ?_
    refine s_val (x_as (v := .slice (some ⟨g, 0, none⟩) (l.length - (j - i)) cap) rfl) ?_
    refine s_nil ?_
    refine ⟨trivial, ?_⟩
    refine t_nil ?_
    refine W.seq ?_
    refine W.region rfl ?_
    refine s_val (x_mv (v := .slice (some ⟨g, 0, none⟩) (l.length - (j - i)) cap) rfl) ?_
    refine s_val (x_mv (v := .slice (some ⟨g, 0, none⟩) (l.length - (j - i)) cap) rfl) ?_
    refine s_val (x_len (n := l.length - (j - i)) T23.und rfl) ?_
    refine s_val (x_mv (v := I l.length) rfl) ?_
    refine s_val (x_sl rfl rfl rfl rfl r4) ?_
    refine s_clear rfl rc ?_
    refine s_nil ?_
    refine W.seq ?_
    refine W.region rfl ?_
    refine s_val (x_mv (v := .slice (some ⟨g, 0, none⟩) (l.length - (j - i)) cap) rfl) ?_
    refine s_val (x_as (v := .slice (some ⟨g, 0, none⟩) (l.length - (j - i)) cap) rfl) ?_
    refine s_nil ?_
    refine W.ret ?_
    refine ⟨_, resE_tmp rfl, ?_⟩
    show OwnF B 34 ((w1.setRow g cs).setRow g cs2) (.slice (some ⟨g, 0, none⟩) (l.length - (j - i)) cap) (l.take i ++ l.drop j) /\ Grow B (.slice (some ⟨g, 0, none⟩) l.length cap) w ((w1.setRow g cs).setRow g cs2) /\ some g = some g
    refine ⟨⟨flat_len _, .inr ⟨g, cap, cs2, by rw [hl3], hb, hg2, by omega, hm, by rw [rs2, rs, hcs], ?_⟩⟩, ⟨hx.os, hx.out, by simpa [World.setRow] using hx.size, fun b hb' hne => ?_, fun g' hg' => (ho'.lt g' hg').1, fun a => by rw [frozen_setRow, frozen_setRow]; exact hx.fz a⟩, rfl⟩
    · rw [hl3, hsz, rt2, ← hsz]
      exact rt
    · have : b ≠ g := fun e => hne (by rw [e]; rfl)
      rw [setRow_other _ g b _ this, setRow_other _ g b _ this]
      exact hx.blk b hb'
end Go.Proofs.Ytclhljenjphofaa
namespace Go.Proofs.Ytclhljenjphofaa
open Go Go.Nm
def m_nilometerlaw01_LevelCloses_1 (x : Leg) (k00 : Int) (k01 : List Line) : M Bool :=
  M.pure (x.line == ((k01.length : Int) - 1))
set_option maxRecDepth 100000 in
set_option maxHeartbeats 16000000 in
theorem nilometerlaw01_LevelCloses_1_ok {R : List Chunk} {b_k0 : Nat} {C_k01 : Cells} {v_k01 : Value} (x : Leg) (k00 : Int) (k01 : List Line) (hC_k01 : Reads R C_k01) (hs_k01 : Sl C_k01 v_k01 k01) (h_b_k0 : Has R (cBlk b_k0 [I k00, v_k01] 25)) {r : Bool} (hM : (m_nilometerlaw01_LevelCloses_1 x k00 k01).Ends r) (w : World) (H : St w w [] R) : Ret Try.prog 54 #[.agg #[I x.line, B x.back], .pointer (some ⟨b_k0, 0, none⟩)] w fun v w' => ∃ (y0 : Bool), y0 = r /\ v = B y0 /\ St w w' [] R := by
 refine ret_of_W Try.func54 rfl rfl rfl ?_
 refine W.seq ?_
 refine W.region rfl ?_
 refine t_box (v := .agg #[I x.line, B x.back]) (cs := [I x.line, B x.back]) H rfl rfl ?_
 intro b_1 w1z H
 refine s_val (x_as (v := B false) rfl) ?_
 refine s_nil ?_
 refine W.seq ?_
 refine W.region rfl ?_
 refine s_val (x_fa (a := .pointer (some ⟨b_1, 0, none⟩)) (v := .pointer (some ⟨b_1, 0, none⟩)) rfl (fa_blk (o := 0) Fd91_0 Sz3)) ?_
 refine s_val (x_ld (p := .pointer (some ⟨b_1, 0, none⟩)) (v := I x.line) rfl (ldb_sc Sc3 (H.blk (k := 0) rfl) rfl)) ?_
 refine s_val (x_fa (a := .pointer (some ⟨b_k0, 0, none⟩)) (v := .pointer (some ⟨b_k0, 1, none⟩)) rfl (fa_blk (o := 0) Fd25_1 Sz23)) ?_
 refine s_val (x_ld (p := .pointer (some ⟨b_k0, 1, none⟩)) (v := v_k01) rfl (ldb_sc Sc23 (h_b_k0.blk H) rfl)) ?_
 have hl2z := (hs_k01).len_le
 refine s_val (x_lenS T23.und rfl hs_k01) ?_
 refine s_val (x_ari (a := (k01.length : Int)) (b := 1) (r := (k01.length : Int) - 1) rfl rfl rfl (by omega)) ?_
 refine s_val (x_cmp (kd := .i64) (a := x.line) (b := (k01.length : Int) - 1) (r := x.line == ((k01.length : Int) - 1)) rfl rfl rfl) ?_
 refine s_val (x_as (v := B (x.line == ((k01.length : Int) - 1))) rfl) ?_
 refine s_nil ?_
 refine W.ret ?_
 have hr_ := M.e_pure hM
 exact ⟨_, resE_tmp rfl, ⟨(x.line == ((k01.length : Int) - 1)), hr_, rfl, (H.pick [] (by decide) rfl)⟩⟩

def m_nilometerlaw01_LevelCloses_j0 (which : Int) (wrong : Int) (r00 : Int) (r01 : List Line) : M Bool :=
  M.grd (decide ((0 : Int) <= which) && decide (which < (256 : Int))) <|
  M.grd (decide ((0 : Int) <= which) && decide ((0 : Int) < (r01.length : Int))) <|
  M.bind (m_nilometerlaw01_CopyNet r00 r01) fun (r07, r110) =>
  M.grd (decide ((-9223372036854775808 : Int) <= ((which % (r01.length : Int)) + 1)) && decide (((which % (r01.length : Int)) + 1) <= (9223372036854775807 : Int))) <|
  M.grd (decide ((0 : Int) <= (which % (r01.length : Int))) && decide ((which % (r01.length : Int)) < ((which % (r01.length : Int)) + 1)) && decide (((which % (r01.length : Int)) + 1) <= (r110.length : Int))) <|
  M.grd (decide ((0 : Int) <= (which % (r01.length : Int))) && decide ((which % (r01.length : Int)) < (r01.length : Int))) <|
  M.bind (m_level_Between r07 (r110.take (Int.toNat (which % (r01.length : Int))) ++ r110.drop (Int.toNat ((which % (r01.length : Int)) + 1))) ((r01.getD (Int.toNat (which % (r01.length : Int))) default).src) ((r01.getD (Int.toNat (which % (r01.length : Int))) default).dst)) fun (r003, r013, r111) =>
  bif r111 != 0 then (
  M.bind (M.opt (r111 == 5) (m_nilometerlaw01_awake) false) fun r4 =>
  M.pure ((r111 == 5) && r4))
  else (
  M.grd (decide ((-9223372036854775808 : Int) <= (r013 + ((r01.getD (Int.toNat (which % (r01.length : Int))) default).err))) && decide ((r013 + ((r01.getD (Int.toNat (which % (r01.length : Int))) default).err)) <= (9223372036854775807 : Int))) <|
  M.grd (decide ((-9223372036854775808 : Int) <= ((r013 + ((r01.getD (Int.toNat (which % (r01.length : Int))) default).err)) + 1)) && decide (((r013 + ((r01.getD (Int.toNat (which % (r01.length : Int))) default).err)) + 1) <= (9223372036854775807 : Int))) <|
  M.grd (decide ((0 : Int) <= wrong) && decide (wrong < (256 : Int))) <|
  M.grd (decide ((-9223372036854775808 : Int) <= (((r013 + ((r01.getD (Int.toNat (which % (r01.length : Int))) default).err)) + 1) + wrong)) && decide ((((r013 + ((r01.getD (Int.toNat (which % (r01.length : Int))) default).err)) + 1) + wrong) <= (9223372036854775807 : Int))) <|
  M.grd (decide (((r110.take (Int.toNat (which % (r01.length : Int))) ++ r110.drop (Int.toNat ((which % (r01.length : Int)) + 1))).length + ([(⟨((r01.getD (Int.toNat (which % (r01.length : Int))) default).src : Int), ((r01.getD (Int.toNat (which % (r01.length : Int))) default).dst : Int), ((r01.getD (Int.toNat (which % (r01.length : Int))) default).day : Int), (((r013 + ((r01.getD (Int.toNat (which % (r01.length : Int))) default).err)) + 1) + wrong : Int), ((r01.getD (Int.toNat (which % (r01.length : Int))) default).err : Int)⟩ : Line)]).length) * 40 <= 140737488355328)) <|
  M.bind (m_level_Agrees r07 ((r110.take (Int.toNat (which % (r01.length : Int))) ++ r110.drop (Int.toNat ((which % (r01.length : Int)) + 1))) ++ ([(⟨((r01.getD (Int.toNat (which % (r01.length : Int))) default).src : Int), ((r01.getD (Int.toNat (which % (r01.length : Int))) default).dst : Int), ((r01.getD (Int.toNat (which % (r01.length : Int))) default).day : Int), (((r013 + ((r01.getD (Int.toNat (which % (r01.length : Int))) default).err)) + 1) + wrong : Int), ((r01.getD (Int.toNat (which % (r01.length : Int))) default).err : Int)⟩ : Line)]))) fun (r08, r112) =>
  M.bind (m_level_Loop r07 ((r110.take (Int.toNat (which % (r01.length : Int))) ++ r110.drop (Int.toNat ((which % (r01.length : Int)) + 1))) ++ ([(⟨((r01.getD (Int.toNat (which % (r01.length : Int))) default).src : Int), ((r01.getD (Int.toNat (which % (r01.length : Int))) default).dst : Int), ((r01.getD (Int.toNat (which % (r01.length : Int))) default).day : Int), (((r013 + ((r01.getD (Int.toNat (which % (r01.length : Int))) default).err)) + 1) + wrong : Int), ((r01.getD (Int.toNat (which % (r01.length : Int))) default).err : Int)⟩ : Line)]))) fun (r09, r113) =>
  M.bind (m_level_Rises r07 ((r110.take (Int.toNat (which % (r01.length : Int))) ++ r110.drop (Int.toNat ((which % (r01.length : Int)) + 1))) ++ ([(⟨((r01.getD (Int.toNat (which % (r01.length : Int))) default).src : Int), ((r01.getD (Int.toNat (which % (r01.length : Int))) default).dst : Int), ((r01.getD (Int.toNat (which % (r01.length : Int))) default).day : Int), (((r013 + ((r01.getD (Int.toNat (which % (r01.length : Int))) default).err)) + 1) + wrong : Int), ((r01.getD (Int.toNat (which % (r01.length : Int))) default).err : Int)⟩ : Line)])) r09) fun (r010, r114, r24, r33) =>
  bif ((((((r112 != 0) || r08) || (r113 != 0)) || (r33 != 0)) || (r010 != r114)) || (decide (0 <= r24))) then (
  M.pure false)
  else (
  M.bind (m_slices_ContainsFunc_level_Leg r09 (fun xqz => m_nilometerlaw01_LevelCloses_1 xqz r07 ((r110.take (Int.toNat (which % (r01.length : Int))) ++ r110.drop (Int.toNat ((which % (r01.length : Int)) + 1))) ++ ([(⟨((r01.getD (Int.toNat (which % (r01.length : Int))) default).src : Int), ((r01.getD (Int.toNat (which % (r01.length : Int))) default).dst : Int), ((r01.getD (Int.toNat (which % (r01.length : Int))) default).day : Int), (((r013 + ((r01.getD (Int.toNat (which % (r01.length : Int))) default).err)) + 1) + wrong : Int), ((r01.getD (Int.toNat (which % (r01.length : Int))) default).err : Int)⟩ : Line)])))) fun r5 =>
  M.bind (M.opt r5 (m_nilometerlaw01_awake) false) fun r6 =>
  M.pure (r5 && r6)))
def m_nilometerlaw01_LevelCloses (numbers : List UInt8) (a : Int) (b : Int) (which : Int) (wrong : Int) : M Bool :=
  M.bind (m_nilometerkit_New numbers) fun (r1, r2) =>
  M.bind (m_nilometerlaw01_Made numbers r1 r2 9) fun (r00, r01, r12, q1, q2) =>
  M.bind (m_level_Agrees r00 r01) fun (r0, r13) =>
  M.bind (m_level_Loop r00 r01) fun (r02, r14) =>
  bif (((r13 != 0) || (!r0)) || (r14 != 5)) then (
  M.pure false)
  else (
  M.grd (decide ((0 : Int) <= a) && decide (a < (256 : Int))) <|
  M.grd (decide ((0 : Int) <= a) && decide ((0 : Int) < r00)) <|
  M.grd (decide ((0 : Int) <= b) && decide (b < (256 : Int))) <|
  M.bind (m_level_Between r00 r01 (a % r00) (b % r00)) fun (r002, r012, r15) =>
  bif r15 == 0 then (
  M.grd (decide ((0 : Int) <= (b % r00)) && decide ((b % r00) < (r12.length : Int))) <|
  M.grd (decide ((0 : Int) <= (a % r00)) && decide ((a % r00) < (r12.length : Int))) <|
  M.grd (decide ((-9223372036854775808 : Int) <= ((r12.getD (Int.toNat (b % r00)) 0) - (r12.getD (Int.toNat (a % r00)) 0))) && decide (((r12.getD (Int.toNat (b % r00)) 0) - (r12.getD (Int.toNat (a % r00)) 0)) <= (9223372036854775807 : Int))) <|
  bif ((decide (((r12.getD (Int.toNat (b % r00)) 0) - (r12.getD (Int.toNat (a % r00)) 0)) < r002)) || (decide (r012 < ((r12.getD (Int.toNat (b % r00)) 0) - (r12.getD (Int.toNat (a % r00)) 0))))) then (
  M.pure false)
  else (
  bif (a % r00) != (b % r00) then (
  M.bind (m_level_Highest r00 r01 (a % r00) (b % r00)) fun (r03, r16) =>
  M.bind (m_level_Highest r00 r01 (b % r00) (a % r00)) fun (r04, r17) =>
  M.bind (m_level_Rises r00 r01 r03) fun (r05, r18, r22, r3) =>
  M.bind (m_level_Rises r00 r01 r04) fun (r06, r19, r23, r32) =>
  M.grd ((!(!(((((r16 != 0) || (r17 != 0)) || (r3 != 0)) || (r32 != 0)) || (r22 != r012))) || (decide (-9223372036854775807 <= r23) && decide (r23 <= 9223372036854775807)))) <|
  bif ((((((r16 != 0) || (r17 != 0)) || (r3 != 0)) || (r32 != 0)) || (r22 != r012)) || ((-r23) != r002)) then (
  M.pure false)
  else (
  m_nilometerlaw01_LevelCloses_j0 which wrong r00 r01))
  else (
  m_nilometerlaw01_LevelCloses_j0 which wrong r00 r01)))
  else (
  bif r15 != 5 then (
  M.pure false)
  else (
  m_nilometerlaw01_LevelCloses_j0 which wrong r00 r01)))
set_option maxRecDepth 100000 in
set_option maxHeartbeats 16000000 in
theorem nilometerlaw01_LevelCloses_ok {R : List Chunk} {C_numbers : Cells} {v_numbers : Value} (numbers : List UInt8) (a : Int) (b : Int) (which : Int) (wrong : Int) (hC_numbers : Reads R C_numbers) (hs_numbers : Sl C_numbers v_numbers numbers) {r : Bool} (hM : (m_nilometerlaw01_LevelCloses numbers a b which wrong).Ends r) (w : World) (H : St w w [] R) : Ret Try.prog 11 #[v_numbers, .int .u8 a, .int .u8 b, .int .u8 which, .int .u8 wrong] w fun v w' => ∃ (y0 : Bool), y0 = r /\ v = B y0 /\ St w w' [] R := by
 refine ret_of_W Try.func11 rfl rfl rfl ?_
 refine W.seq ?_
 refine W.region rfl ?_
 refine s_val (x_as (v := B false) rfl) ?_
 refine s_nil ?_
 refine W.seq ?_
 refine W.region rfl ?_
 refine s_val (x_mv (v := v_numbers) rfl) ?_
 obtain ⟨r2z, hx1z, hM⟩ := M.e_bind hM
 refine s_call cf13 [v_numbers] rfl (nilometerkit_New_ok numbers (hC_numbers.app _) hs_numbers hx1z _ (St.give (T := []) H rfl)) ?_
 rintro vq w3z ⟨r1, r2, nb0_1, hr4z, hvq, H2_⟩
 subst hr4z
 subst vq
 try dsimp only at hM
 replace H : St w w3z [cBlk nb0_1 [v_numbers, I r1, I r2] 109] R := H.back H2_ rfl
 clear H2_
 obtain ⟨r6z, hx5z, hM⟩ := M.e_bind hM
 refine s_call cf12 [.pointer (some ⟨nb0_1, 0, none⟩), I 9] rfl (nilometerlaw01_Made_ok numbers r1 r2 9 (hC_numbers.app _) hs_numbers hx5z _ (St.give (T := []) H rfl)) ?_
 rintro vq w7z ⟨r00, r01, r12, q1, q2, u0_2, u1_3, hr8z, hvq, H2_⟩
 subst hr8z
 subst vq
 try dsimp only at hM
 replace H : St w w7z [cOwn (α := Line) 34 u0_2 r01, cOwn (α := Int) 3 u1_3 r12, cBlk nb0_1 [v_numbers, I q1, I q2] 109] R := H.back H2_ rfl
 clear H2_
 refine s_val (x_mv (v := .tuple #[.agg #[I r00, u0_2], u1_3]) rfl) ?_
 refine s_val (x_ext (vs := [.agg #[I r00, u0_2], u1_3]) (v := .agg #[I r00, u0_2]) rfl rfl) ?_
 refine s_val (x_ext (vs := [.agg #[I r00, u0_2], u1_3]) (v := u1_3) rfl rfl) ?_
 refine t_alloc (cs := [I 0, .slice none 0 0]) H Al25 rfl ?_
 intro b_4 w9z H
 refine t_st (k := 0) (b := b_4) (off := 0) (cs := [I 0, .slice none 0 0]) (vs := [I r00, u0_2]) (cs' := [I r00, u0_2]) (v := .agg #[I r00, u0_2]) (L' := [cBlk b_4 [I r00, u0_2] 25, cOwn (α := Line) 34 u0_2 r01, cOwn (α := Int) 3 u1_3 r12, cBlk nb0_1 [v_numbers, I q1, I q2] 109]) H rfl rfl rfl Sz25 rfl rfl rfl (by simp only [List.all_cons, List.all_nil, Bool.true_and, Bool.and_true, Sl.oc (ownSl (H.get (k := 1) rfl))]; try rfl) rfl rfl ?_
 intro w10z H
 refine s_val (x_as (v := u1_3) rfl) ?_
 refine s_nil ?_
 refine W.seq ?_
 refine W.region rfl ?_
 refine s_val (x_ld (p := .pointer (some ⟨b_4, 0, none⟩)) (v := .agg #[I r00, u0_2]) rfl (ldb_ag (ds := [I r00, u0_2]) Ag25 Sz25 (H.blk (k := 0) rfl) rfl rfl)) ?_
 obtain ⟨r12z, hx11z, hM⟩ := M.e_bind hM
 refine s_call cf23 [.agg #[I r00, u0_2]] rfl (level_Agrees_ok r00 r01 (Reads.of (k := 1) rfl ownLe) (ownSl (H.get (k := 1) rfl)) hx11z _ (St.give (T := [cBlk b_4 [I r00, u0_2] 25, cOwn (α := Line) 34 u0_2 r01, cOwn (α := Int) 3 u1_3 r12, cBlk nb0_1 [v_numbers, I q1, I q2] 109]) H rfl)) ?_
 rintro vq w13z ⟨r0, r13, hr14z, hvq, H2_⟩
 subst hr14z
 subst vq
 try dsimp only at hM
 replace H : St w w13z [cBlk b_4 [I r00, u0_2] 25, cOwn (α := Line) 34 u0_2 r01, cOwn (α := Int) 3 u1_3 r12, cBlk nb0_1 [v_numbers, I q1, I q2] 109] R := H.back H2_ rfl
 clear H2_
 refine s_val (x_mv (v := .tuple #[B r0, I r13]) rfl) ?_
 refine s_val (x_ext (vs := [B r0, I r13]) (v := B r0) rfl rfl) ?_
 refine s_val (x_ext (vs := [B r0, I r13]) (v := I r13) rfl rfl) ?_
 refine s_val (x_as (v := B r0) rfl) ?_
 refine s_val (x_as (v := I r13) rfl) ?_
 refine s_nil ?_
 refine W.seq ?_
 refine W.region rfl ?_
 refine s_val (x_ld (p := .pointer (some ⟨b_4, 0, none⟩)) (v := .agg #[I r00, u0_2]) rfl (ldb_ag (ds := [I r00, u0_2]) Ag25 Sz25 (H.blk (k := 0) rfl) rfl rfl)) ?_
 obtain ⟨r16z, hx15z, hM⟩ := M.e_bind hM
 refine s_call cf50 [.agg #[I r00, u0_2]] rfl (level_Loop_ok r00 r01 (Reads.of (k := 1) rfl ownLe) (ownSl (H.get (k := 1) rfl)) hx15z _ (St.give (T := [cBlk b_4 [I r00, u0_2] 25, cOwn (α := Line) 34 u0_2 r01, cOwn (α := Int) 3 u1_3 r12, cBlk nb0_1 [v_numbers, I q1, I q2] 109]) H rfl)) ?_
 rintro vq w17z ⟨r02, r14, u0_5, hr18z, hvq, H2_⟩
 subst hr18z
 subst vq
 try dsimp only at hM
 replace H : St w w17z [cOwn (α := Leg) 91 u0_5 r02, cBlk b_4 [I r00, u0_2] 25, cOwn (α := Line) 34 u0_2 r01, cOwn (α := Int) 3 u1_3 r12, cBlk nb0_1 [v_numbers, I q1, I q2] 109] R := H.back H2_ rfl
 clear H2_
 refine s_val (x_mv (v := .tuple #[u0_5, I r14]) rfl) ?_
 refine s_val (x_ext (vs := [u0_5, I r14]) (v := u0_5) rfl rfl) ?_
 refine s_val (x_ext (vs := [u0_5, I r14]) (v := I r14) rfl rfl) ?_
 refine s_val (x_as (v := u0_5) rfl) ?_
 refine s_val (x_as (v := I r14) rfl) ?_
 refine s_nil ?_
 refine W.seq ?_
 refine W.seq ?_
 refine W.region rfl ?_
 refine s_val (x_mv (v := I r13) rfl) ?_
 refine s_val (x_cmp (kd := .i64) (a := r13) (b := 0) (r := r13 != 0) rfl rfl rfl) ?_
 refine s_val (x_mv (v := B (r13 != 0)) rfl) ?_
 refine g_val (!(r13 != 0)) (gy_f rfl) (fun hg => x_mv (v := B r0) rfl) ?_
 refine g_val (!(r13 != 0)) (gy_f rfl) (fun hg => x_not (b := r0) (gd_of (c := !(r13 != 0)) hg (B r0))) ?_
 refine s_val (x_por (b := r13 != 0) (r := !r0) rfl rfl (fun hb => gd_of (c := !(r13 != 0)) (by first | exact hb | (rw [hb]; rfl) | simp_all) (B (!r0)))) ?_
 refine s_val (x_mv (v := B ((r13 != 0) || (!r0))) rfl) ?_
 refine g_val (!((r13 != 0) || (!r0))) (gy_f rfl) (fun hg => x_mv (v := I r14) rfl) ?_
 refine g_val (!((r13 != 0) || (!r0))) (gy_f rfl) (fun hg => x_cmp (kd := .i64) (a := r14) (b := 5) (r := r14 != 5) (gd_of (c := !((r13 != 0) || (!r0))) hg (I r14)) rfl rfl) ?_
 refine s_val (x_por (b := ((r13 != 0) || (!r0))) (r := r14 != 5) rfl rfl (fun hb => gd_of (c := !((r13 != 0) || (!r0))) (by first | exact hb | (rw [hb]; rfl) | simp_all) (B (r14 != 5)))) ?_
 refine s_nil ?_
 refine W.cond (((r13 != 0) || (!r0)) || (r14 != 5)) rfl (fun c19z => ?_) (fun c19z => ?_)
 ·replace hM := M.e_t hM c19z
  refine W.seq ?_
  refine W.region rfl ?_
  refine s_val (x_as (v := B false) rfl) ?_
  refine s_nil ?_
  refine W.ret ?_
  have hr_ := M.e_pure hM
  exact ⟨_, resE_tmp rfl, ⟨false, hr_, rfl, (H.pick [] (by decide) rfl)⟩⟩
 ·replace hM := M.e_f hM c19z
  refine W.skip ?_
  refine W.seq ?_
  refine W.draw (fun W => St w W [cOwn (α := Leg) 91 u0_5 r02, cBlk b_4 [I r00, u0_2] 25, cOwn (α := Line) 34 u0_2 r01, cOwn (α := Int) 3 u1_3 r12, cBlk nb0_1 [v_numbers, I q1, I q2] 109] R) [(0, true), (1, true), (2, true), (3, true), (4, true), (5, true), (6, true), (7, true), (8, true), (9, true), (10, true), (11, true)] mixed (by decide +kernel) rfl ?_
  intro w20z hx_
  replace H : St w w20z [cOwn (α := Leg) 91 u0_5 r02, cBlk b_4 [I r00, u0_2] 25, cOwn (α := Line) 34 u0_2 r01, cOwn (α := Int) 3 u1_3 r12, cBlk nb0_1 [v_numbers, I q1, I q2] 109] R := H.ext hx_
  clear hx_
  refine ⟨(H.pick [0, 1, 2, 3, 4] (by decide) rfl), ?_⟩
  refine d_q rfl (fun w' H => x_mv (v := .int .u8 a) rfl) ?_
  obtain ⟨sd21z, hM⟩ := M.e_grd hM
  simp only [Bool.and_eq_true, decide_eq_true_eq] at sd21z
  refine d_q rfl (fun w' H => x_conv64 (kd := .u8) (a := a) Try.underlying5 Try.underlying3 rfl (by omega)) ?_
  refine d_q rfl (fun w' H => x_fa (a := .pointer (some ⟨b_4, 0, none⟩)) (v := .pointer (some ⟨b_4, 0, none⟩)) rfl (fa_blk (o := 0) Fd25_0 Sz3)) ?_
  refine d_q rfl (fun w' H => x_ld (p := .pointer (some ⟨b_4, 0, none⟩)) (v := I r00) rfl (ldb_sc Sc3 (H.blk (k := 1) rfl) rfl)) ?_
  obtain ⟨sd22z, hM⟩ := M.e_grd hM
  simp only [Bool.and_eq_true, decide_eq_true_eq] at sd22z
  refine d_q rfl (fun w' H => x_rem' (a := a) (b := r00) rfl rfl (by omega)) ?_
  refine d_q rfl (fun w' H => x_mv (v := .int .u8 b) rfl) ?_
  obtain ⟨sd23z, hM⟩ := M.e_grd hM
  simp only [Bool.and_eq_true, decide_eq_true_eq] at sd23z
  refine d_q rfl (fun w' H => x_conv64 (kd := .u8) (a := b) Try.underlying5 Try.underlying3 rfl (by omega)) ?_
  refine d_q rfl (fun w' H => x_fa (a := .pointer (some ⟨b_4, 0, none⟩)) (v := .pointer (some ⟨b_4, 0, none⟩)) rfl (fa_blk (o := 0) Fd25_0 Sz3)) ?_
  refine d_q rfl (fun w' H => x_ld (p := .pointer (some ⟨b_4, 0, none⟩)) (v := I r00) rfl (ldb_sc Sc3 (H.blk (k := 1) rfl) rfl)) ?_
  refine d_q rfl (fun w' H => x_rem' (a := b) (b := r00) rfl rfl (by omega)) ?_
  refine d_q rfl (fun w' H => x_as (v := I (a % r00)) rfl) ?_
  refine d_q rfl (fun w' H => x_as (v := I (b % r00)) rfl) ?_
  refine d_nil ?_
  refine W.seq ?_
  refine W.region rfl ?_
  refine s_val (x_ld (p := .pointer (some ⟨b_4, 0, none⟩)) (v := .agg #[I r00, u0_2]) rfl (ldb_ag (ds := [I r00, u0_2]) Ag25 Sz25 (H.blk (k := 1) rfl) rfl rfl)) ?_
  refine s_val (x_mv (v := I (a % r00)) rfl) ?_
  refine s_val (x_mv (v := I (b % r00)) rfl) ?_
  obtain ⟨r25z, hx24z, hM⟩ := M.e_bind hM
  refine s_call cf17 [.agg #[I r00, u0_2], I (a % r00), I (b % r00)] rfl (level_Between_ok r00 r01 (a % r00) (b % r00) (Reads.of (k := 2) rfl ownLe) (ownSl (H.get (k := 2) rfl)) hx24z _ (St.give (T := [cOwn (α := Leg) 91 u0_5 r02, cBlk b_4 [I r00, u0_2] 25, cOwn (α := Line) 34 u0_2 r01, cOwn (α := Int) 3 u1_3 r12, cBlk nb0_1 [v_numbers, I q1, I q2] 109]) H rfl)) ?_
  rintro vq w26z ⟨r002, r012, r15, hr27z, hvq, H2_⟩
  subst hr27z
  subst vq
  try dsimp only at hM
  replace H : St w w26z [cOwn (α := Leg) 91 u0_5 r02, cBlk b_4 [I r00, u0_2] 25, cOwn (α := Line) 34 u0_2 r01, cOwn (α := Int) 3 u1_3 r12, cBlk nb0_1 [v_numbers, I q1, I q2] 109] R := H.back H2_ rfl
  clear H2_
  refine s_val (x_mv (v := .tuple #[.agg #[I r002, I r012], I r15]) rfl) ?_
  refine s_val (x_ext (vs := [.agg #[I r002, I r012], I r15]) (v := .agg #[I r002, I r012]) rfl rfl) ?_
  refine s_val (x_ext (vs := [.agg #[I r002, I r012], I r15]) (v := I r15) rfl rfl) ?_
  refine t_alloc (cs := [I 0, I 0]) H Al37 rfl ?_
  intro b_6 w28z H
  refine t_st (k := 0) (b := b_6) (off := 0) (cs := [I 0, I 0]) (vs := [I r002, I r012]) (cs' := [I r002, I r012]) (v := .agg #[I r002, I r012]) (L' := [cBlk b_6 [I r002, I r012] 37, cOwn (α := Leg) 91 u0_5 r02, cBlk b_4 [I r00, u0_2] 25, cOwn (α := Line) 34 u0_2 r01, cOwn (α := Int) 3 u1_3 r12, cBlk nb0_1 [v_numbers, I q1, I q2] 109]) H rfl rfl rfl Sz37 rfl rfl rfl rfl rfl rfl ?_
  intro w29z H
  refine s_val (x_as (v := I r15) rfl) ?_
  refine s_nil ?_
  refine W.seqJ (fun σ W => ∃ (ρ : Env), σ = upds ρ [(3, .int .u8 which), (4, .int .u8 wrong), (11, .pointer (some ⟨b_4, 0, none⟩)), (19, .pointer (some ⟨b_6, 0, none⟩))] /\ (m_nilometerlaw01_LevelCloses_j0 which wrong r00 r01).Ends r /\ St w W [cBlk b_6 [I r002, I r012] 37, cOwn (α := Leg) 91 u0_5 r02, cBlk b_4 [I r00, u0_2] 25, cOwn (α := Line) 34 u0_2 r01, cOwn (α := Int) 3 u1_3 r12, cBlk nb0_1 [v_numbers, I q1, I q2] 109] R) ?_ ?_
  ·skip
   refine W.seq ?_
   refine W.region rfl ?_
   refine s_val (x_mv (v := I r15) rfl) ?_
   refine s_val (x_cmp (kd := .i64) (a := r15) (b := 0) (r := r15 == 0) rfl rfl rfl) ?_
   refine s_nil ?_
   refine W.cond (r15 == 0) rfl (fun c30z => ?_) (fun c30z => ?_)
   ·replace hM := M.e_t hM c30z
    simp only [decide_eq_true_eq, decide_eq_false_iff_not, beq_iff_eq, bne_iff_ne, beq_eq_false_iff_ne, bne_eq_false_iff_eq, ne_eq, Decidable.not_not] at c30z
    refine W.seq ?_
    refine W.seq ?_
    refine W.draw (fun W => St w W [cBlk b_6 [I r002, I r012] 37, cOwn (α := Leg) 91 u0_5 r02, cBlk b_4 [I r00, u0_2] 25, cOwn (α := Line) 34 u0_2 r01, cOwn (α := Int) 3 u1_3 r12, cBlk nb0_1 [v_numbers, I q1, I q2] 109] R) [(0, true), (1, true), (2, true), (3, true), (4, true), (5, true), (6, true), (7, true), (8, true), (9, true)] mixed (by decide +kernel) rfl ?_
    intro w31z hx_
    replace H : St w w31z [cBlk b_6 [I r002, I r012] 37, cOwn (α := Leg) 91 u0_5 r02, cBlk b_4 [I r00, u0_2] 25, cOwn (α := Line) 34 u0_2 r01, cOwn (α := Int) 3 u1_3 r12, cBlk nb0_1 [v_numbers, I q1, I q2] 109] R := H.ext hx_
    clear hx_
    refine ⟨(H.pick [0, 1, 2, 3, 4, 5] (by decide) rfl), ?_⟩
    refine d_q rfl (fun w' H => x_mv (v := u1_3) rfl) ?_
    refine d_q rfl (fun w' H => x_mv (v := I (b % r00)) rfl) ?_
    obtain ⟨sd32z, hM⟩ := M.e_grd hM
    simp only [Bool.and_eq_true, decide_eq_true_eq] at sd32z
    refine d_q rfl (fun w' H => x_ix (a := u1_3) (b := I (b % r00)) (v := vat u1_3 1 (Int.toNat (b % r00))) rfl rfl (Sl.ix (α := Int) T26.und T26.size (ownSl (H.get (k := 4) rfl)) (by omega) (by omega))) ?_
    refine d_q rfl (fun w' H => x_ld (p := vat u1_3 1 (Int.toNat (b % r00))) (v := I (r12.getD (Int.toNat (b % r00)) 0)) rfl (ld_sc Sc3 (At.mono (Int_at (ownSl (H.get (k := 4) rfl)) (i := b % r00) (by omega) (by omega)) (ownLe _ (H.get (k := 4) rfl))))) ?_
    refine d_q rfl (fun w' H => x_mv (v := u1_3) rfl) ?_
    refine d_q rfl (fun w' H => x_mv (v := I (a % r00)) rfl) ?_
    obtain ⟨sd33z, hM⟩ := M.e_grd hM
    simp only [Bool.and_eq_true, decide_eq_true_eq] at sd33z
    refine d_q rfl (fun w' H => x_ix (a := u1_3) (b := I (a % r00)) (v := vat u1_3 1 (Int.toNat (a % r00))) rfl rfl (Sl.ix (α := Int) T26.und T26.size (ownSl (H.get (k := 4) rfl)) (by omega) (by omega))) ?_
    refine d_q rfl (fun w' H => x_ld (p := vat u1_3 1 (Int.toNat (a % r00))) (v := I (r12.getD (Int.toNat (a % r00)) 0)) rfl (ld_sc Sc3 (At.mono (Int_at (ownSl (H.get (k := 4) rfl)) (i := a % r00) (by omega) (by omega)) (ownLe _ (H.get (k := 4) rfl))))) ?_
    obtain ⟨sd34z, hM⟩ := M.e_grd hM
    simp only [Bool.and_eq_true, decide_eq_true_eq] at sd34z
    refine d_q rfl (fun w' H => x_ari (a := r12.getD (Int.toNat (b % r00)) 0) (b := r12.getD (Int.toNat (a % r00)) 0) (r := (r12.getD (Int.toNat (b % r00)) 0) - (r12.getD (Int.toNat (a % r00)) 0)) rfl rfl rfl (by omega)) ?_
    refine d_q rfl (fun w' H => x_as (v := I ((r12.getD (Int.toNat (b % r00)) 0) - (r12.getD (Int.toNat (a % r00)) 0))) rfl) ?_
    refine d_nil ?_
    refine W.seq ?_
    refine W.region rfl ?_
    refine s_val (x_mv (v := I ((r12.getD (Int.toNat (b % r00)) 0) - (r12.getD (Int.toNat (a % r00)) 0))) rfl) ?_
    refine s_val (x_fa (a := .pointer (some ⟨b_6, 0, none⟩)) (v := .pointer (some ⟨b_6, 0, none⟩)) rfl (fa_blk (o := 0) Fd37_0 Sz3)) ?_
    refine s_val (x_ld (p := .pointer (some ⟨b_6, 0, none⟩)) (v := I r002) rfl (ldb_sc Sc3 (H.blk (k := 0) rfl) rfl)) ?_
    refine s_val (x_cmp (kd := .i64) (a := (r12.getD (Int.toNat (b % r00)) 0) - (r12.getD (Int.toNat (a % r00)) 0)) (b := r002) (r := decide (((r12.getD (Int.toNat (b % r00)) 0) - (r12.getD (Int.toNat (a % r00)) 0)) < r002)) rfl rfl rfl) ?_
    refine s_val (x_mv (v := B (decide (((r12.getD (Int.toNat (b % r00)) 0) - (r12.getD (Int.toNat (a % r00)) 0)) < r002))) rfl) ?_
    refine g_val (!(decide (((r12.getD (Int.toNat (b % r00)) 0) - (r12.getD (Int.toNat (a % r00)) 0)) < r002))) (gy_f rfl) (fun hg => x_mv (v := I ((r12.getD (Int.toNat (b % r00)) 0) - (r12.getD (Int.toNat (a % r00)) 0))) rfl) ?_
    refine g_val (!(decide (((r12.getD (Int.toNat (b % r00)) 0) - (r12.getD (Int.toNat (a % r00)) 0)) < r002))) (gy_f rfl) (fun hg => x_fa (a := .pointer (some ⟨b_6, 0, none⟩)) (v := .pointer (some ⟨b_6, 1, none⟩)) rfl (fa_blk (o := 0) Fd37_1 Sz3)) ?_
    refine g_val (!(decide (((r12.getD (Int.toNat (b % r00)) 0) - (r12.getD (Int.toNat (a % r00)) 0)) < r002))) (gy_f rfl) (fun hg => x_ld (p := .pointer (some ⟨b_6, 1, none⟩)) (v := I r012) (gd_of (c := !(decide (((r12.getD (Int.toNat (b % r00)) 0) - (r12.getD (Int.toNat (a % r00)) 0)) < r002))) hg (.pointer (some ⟨b_6, 1, none⟩))) (ldb_sc Sc3 (H.blk (k := 0) rfl) rfl)) ?_
    refine g_val (!(decide (((r12.getD (Int.toNat (b % r00)) 0) - (r12.getD (Int.toNat (a % r00)) 0)) < r002))) (gy_f rfl) (fun hg => x_cmp (kd := .i64) (a := (r12.getD (Int.toNat (b % r00)) 0) - (r12.getD (Int.toNat (a % r00)) 0)) (b := r012) (r := decide (r012 < ((r12.getD (Int.toNat (b % r00)) 0) - (r12.getD (Int.toNat (a % r00)) 0)))) (gd_of (c := !(decide (((r12.getD (Int.toNat (b % r00)) 0) - (r12.getD (Int.toNat (a % r00)) 0)) < r002))) hg (I ((r12.getD (Int.toNat (b % r00)) 0) - (r12.getD (Int.toNat (a % r00)) 0)))) (gd_of (c := !(decide (((r12.getD (Int.toNat (b % r00)) 0) - (r12.getD (Int.toNat (a % r00)) 0)) < r002))) hg (I r012)) rfl) ?_
    refine s_val (x_por (b := decide (((r12.getD (Int.toNat (b % r00)) 0) - (r12.getD (Int.toNat (a % r00)) 0)) < r002)) (r := decide (r012 < ((r12.getD (Int.toNat (b % r00)) 0) - (r12.getD (Int.toNat (a % r00)) 0)))) rfl rfl (fun hb => gd_of (c := !(decide (((r12.getD (Int.toNat (b % r00)) 0) - (r12.getD (Int.toNat (a % r00)) 0)) < r002))) (by first | exact hb | (rw [hb]; rfl) | simp_all) (B (decide (r012 < ((r12.getD (Int.toNat (b % r00)) 0) - (r12.getD (Int.toNat (a % r00)) 0))))))) ?_
    refine s_nil ?_
    refine W.cond ((decide (((r12.getD (Int.toNat (b % r00)) 0) - (r12.getD (Int.toNat (a % r00)) 0)) < r002)) || (decide (r012 < ((r12.getD (Int.toNat (b % r00)) 0) - (r12.getD (Int.toNat (a % r00)) 0))))) rfl (fun c35z => ?_) (fun c35z => ?_)
    ·replace hM := M.e_t hM c35z
     refine W.seq ?_
     refine W.region rfl ?_
     refine s_val (x_as (v := B false) rfl) ?_
     refine s_nil ?_
     refine W.ret ?_
     have hr_ := M.e_pure hM
     exact ⟨_, resE_tmp rfl, ⟨false, hr_, rfl, (H.pick [] (by decide) rfl)⟩⟩
    ·replace hM := M.e_f hM c35z
     refine W.skip ?_
     refine W.seq ?_
     refine W.region rfl ?_
     refine s_val (x_mv (v := I (a % r00)) rfl) ?_
     refine s_val (x_mv (v := I (b % r00)) rfl) ?_
     refine s_val (x_cmp (kd := .i64) (a := a % r00) (b := b % r00) (r := (a % r00) != (b % r00)) rfl rfl rfl) ?_
     refine s_nil ?_
     refine W.cond ((a % r00) != (b % r00)) rfl (fun c36z => ?_) (fun c36z => ?_)
     ·replace hM := M.e_t hM c36z
      simp only [decide_eq_true_eq, decide_eq_false_iff_not, beq_iff_eq, bne_iff_ne, beq_eq_false_iff_ne, bne_eq_false_iff_eq, ne_eq, Decidable.not_not] at c36z
      refine W.seq ?_
      refine W.region rfl ?_
      refine s_val (x_ld (p := .pointer (some ⟨b_4, 0, none⟩)) (v := .agg #[I r00, u0_2]) rfl (ldb_ag (ds := [I r00, u0_2]) Ag25 Sz25 (H.blk (k := 2) rfl) rfl rfl)) ?_
      refine s_val (x_mv (v := I (a % r00)) rfl) ?_
      refine s_val (x_mv (v := I (b % r00)) rfl) ?_
      obtain ⟨r38z, hx37z, hM⟩ := M.e_bind hM
      refine s_call cf48 [.agg #[I r00, u0_2], I (a % r00), I (b % r00)] rfl (level_Highest_ok r00 r01 (a % r00) (b % r00) (Reads.of (k := 3) rfl ownLe) (ownSl (H.get (k := 3) rfl)) hx37z _ (St.give (T := [cBlk b_6 [I r002, I r012] 37, cOwn (α := Leg) 91 u0_5 r02, cBlk b_4 [I r00, u0_2] 25, cOwn (α := Line) 34 u0_2 r01, cOwn (α := Int) 3 u1_3 r12, cBlk nb0_1 [v_numbers, I q1, I q2] 109]) H rfl)) ?_
      rintro vq w39z ⟨r03, r16, u0_7, hr40z, hvq, H2_⟩
      subst hr40z
      subst vq
      try dsimp only at hM
      replace H : St w w39z [cOwn (α := Leg) 91 u0_7 r03, cBlk b_6 [I r002, I r012] 37, cOwn (α := Leg) 91 u0_5 r02, cBlk b_4 [I r00, u0_2] 25, cOwn (α := Line) 34 u0_2 r01, cOwn (α := Int) 3 u1_3 r12, cBlk nb0_1 [v_numbers, I q1, I q2] 109] R := H.back H2_ rfl
      clear H2_
      refine s_val (x_mv (v := .tuple #[u0_7, I r16]) rfl) ?_
      refine s_val (x_ext (vs := [u0_7, I r16]) (v := u0_7) rfl rfl) ?_
      refine s_val (x_ext (vs := [u0_7, I r16]) (v := I r16) rfl rfl) ?_
      refine s_val (x_as (v := u0_7) rfl) ?_
      refine s_val (x_as (v := I r16) rfl) ?_
      refine s_nil ?_
      refine W.seq ?_
      refine W.region rfl ?_
      refine s_val (x_ld (p := .pointer (some ⟨b_4, 0, none⟩)) (v := .agg #[I r00, u0_2]) rfl (ldb_ag (ds := [I r00, u0_2]) Ag25 Sz25 (H.blk (k := 3) rfl) rfl rfl)) ?_
      refine s_val (x_mv (v := I (b % r00)) rfl) ?_
      refine s_val (x_mv (v := I (a % r00)) rfl) ?_
      obtain ⟨r42z, hx41z, hM⟩ := M.e_bind hM
      refine s_call cf48 [.agg #[I r00, u0_2], I (b % r00), I (a % r00)] rfl (level_Highest_ok r00 r01 (b % r00) (a % r00) (Reads.of (k := 4) rfl ownLe) (ownSl (H.get (k := 4) rfl)) hx41z _ (St.give (T := [cOwn (α := Leg) 91 u0_7 r03, cBlk b_6 [I r002, I r012] 37, cOwn (α := Leg) 91 u0_5 r02, cBlk b_4 [I r00, u0_2] 25, cOwn (α := Line) 34 u0_2 r01, cOwn (α := Int) 3 u1_3 r12, cBlk nb0_1 [v_numbers, I q1, I q2] 109]) H rfl)) ?_
      rintro vq w43z ⟨r04, r17, u0_8, hr44z, hvq, H2_⟩
      subst hr44z
      subst vq
      try dsimp only at hM
      replace H : St w w43z [cOwn (α := Leg) 91 u0_8 r04, cOwn (α := Leg) 91 u0_7 r03, cBlk b_6 [I r002, I r012] 37, cOwn (α := Leg) 91 u0_5 r02, cBlk b_4 [I r00, u0_2] 25, cOwn (α := Line) 34 u0_2 r01, cOwn (α := Int) 3 u1_3 r12, cBlk nb0_1 [v_numbers, I q1, I q2] 109] R := H.back H2_ rfl
      clear H2_
      refine s_val (x_mv (v := .tuple #[u0_8, I r17]) rfl) ?_
      refine s_val (x_ext (vs := [u0_8, I r17]) (v := u0_8) rfl rfl) ?_
      refine s_val (x_ext (vs := [u0_8, I r17]) (v := I r17) rfl rfl) ?_
      refine s_val (x_as (v := u0_8) rfl) ?_
      refine s_val (x_as (v := I r17) rfl) ?_
      refine s_nil ?_
      refine W.seq ?_
      refine W.region rfl ?_
      refine s_val (x_ld (p := .pointer (some ⟨b_4, 0, none⟩)) (v := .agg #[I r00, u0_2]) rfl (ldb_ag (ds := [I r00, u0_2]) Ag25 Sz25 (H.blk (k := 4) rfl) rfl rfl)) ?_
      refine s_val (x_mv (v := u0_7) rfl) ?_
      obtain ⟨r46z, hx45z, hM⟩ := M.e_bind hM
      refine s_call cf45 [.agg #[I r00, u0_2], u0_7] rfl (level_Rises_ok r00 r01 r03 (Reads.of (k := 5) rfl ownLe) (ownSl (H.get (k := 5) rfl)) (Reads.of (k := 1) rfl ownLe) (ownSl (H.get (k := 1) rfl)) hx45z _ (St.give (T := [cOwn (α := Leg) 91 u0_8 r04, cOwn (α := Leg) 91 u0_7 r03, cBlk b_6 [I r002, I r012] 37, cOwn (α := Leg) 91 u0_5 r02, cBlk b_4 [I r00, u0_2] 25, cOwn (α := Line) 34 u0_2 r01, cOwn (α := Int) 3 u1_3 r12, cBlk nb0_1 [v_numbers, I q1, I q2] 109]) H rfl)) ?_
      rintro vq w47z ⟨r05, r18, r22, r3, hr48z, hvq, H2_⟩
      subst hr48z
      subst vq
      try dsimp only at hM
      replace H : St w w47z [cOwn (α := Leg) 91 u0_8 r04, cOwn (α := Leg) 91 u0_7 r03, cBlk b_6 [I r002, I r012] 37, cOwn (α := Leg) 91 u0_5 r02, cBlk b_4 [I r00, u0_2] 25, cOwn (α := Line) 34 u0_2 r01, cOwn (α := Int) 3 u1_3 r12, cBlk nb0_1 [v_numbers, I q1, I q2] 109] R := H.back H2_ rfl
      clear H2_
      refine s_val (x_mv (v := .tuple #[I r05, I r18, I r22, I r3]) rfl) ?_
      refine s_val (x_ext (vs := [I r05, I r18, I r22, I r3]) (v := I r05) rfl rfl) ?_
      refine s_val (x_ext (vs := [I r05, I r18, I r22, I r3]) (v := I r18) rfl rfl) ?_
      refine s_val (x_ext (vs := [I r05, I r18, I r22, I r3]) (v := I r22) rfl rfl) ?_
      refine s_val (x_ext (vs := [I r05, I r18, I r22, I r3]) (v := I r3) rfl rfl) ?_
      refine s_val (x_as (v := I r05) rfl) ?_
      refine s_val (x_as (v := I r18) rfl) ?_
      refine s_val (x_as (v := I r22) rfl) ?_
      refine s_val (x_as (v := I r3) rfl) ?_
      refine s_nil ?_
      refine W.seq ?_
      refine W.region rfl ?_
      refine s_val (x_ld (p := .pointer (some ⟨b_4, 0, none⟩)) (v := .agg #[I r00, u0_2]) rfl (ldb_ag (ds := [I r00, u0_2]) Ag25 Sz25 (H.blk (k := 4) rfl) rfl rfl)) ?_
      refine s_val (x_mv (v := u0_8) rfl) ?_
      obtain ⟨r50z, hx49z, hM⟩ := M.e_bind hM
      refine s_call cf45 [.agg #[I r00, u0_2], u0_8] rfl (level_Rises_ok r00 r01 r04 (Reads.of (k := 5) rfl ownLe) (ownSl (H.get (k := 5) rfl)) (Reads.of (k := 0) rfl ownLe) (ownSl (H.get (k := 0) rfl)) hx49z _ (St.give (T := [cOwn (α := Leg) 91 u0_8 r04, cOwn (α := Leg) 91 u0_7 r03, cBlk b_6 [I r002, I r012] 37, cOwn (α := Leg) 91 u0_5 r02, cBlk b_4 [I r00, u0_2] 25, cOwn (α := Line) 34 u0_2 r01, cOwn (α := Int) 3 u1_3 r12, cBlk nb0_1 [v_numbers, I q1, I q2] 109]) H rfl)) ?_
      rintro vq w51z ⟨r06, r19, r23, r32, hr52z, hvq, H2_⟩
      subst hr52z
      subst vq
      try dsimp only at hM
      replace H : St w w51z [cOwn (α := Leg) 91 u0_8 r04, cOwn (α := Leg) 91 u0_7 r03, cBlk b_6 [I r002, I r012] 37, cOwn (α := Leg) 91 u0_5 r02, cBlk b_4 [I r00, u0_2] 25, cOwn (α := Line) 34 u0_2 r01, cOwn (α := Int) 3 u1_3 r12, cBlk nb0_1 [v_numbers, I q1, I q2] 109] R := H.back H2_ rfl
      clear H2_
      refine s_val (x_mv (v := .tuple #[I r06, I r19, I r23, I r32]) rfl) ?_
      refine s_val (x_ext (vs := [I r06, I r19, I r23, I r32]) (v := I r06) rfl rfl) ?_
      refine s_val (x_ext (vs := [I r06, I r19, I r23, I r32]) (v := I r19) rfl rfl) ?_
      refine s_val (x_ext (vs := [I r06, I r19, I r23, I r32]) (v := I r23) rfl rfl) ?_
      refine s_val (x_ext (vs := [I r06, I r19, I r23, I r32]) (v := I r32) rfl rfl) ?_
      refine s_val (x_as (v := I r06) rfl) ?_
      refine s_val (x_as (v := I r19) rfl) ?_
      refine s_val (x_as (v := I r23) rfl) ?_
      refine s_val (x_as (v := I r32) rfl) ?_
      refine s_nil ?_
      refine W.seq ?_
      refine W.region rfl ?_
      refine s_val (x_mv (v := I r16) rfl) ?_
      refine s_val (x_cmp (kd := .i64) (a := r16) (b := 0) (r := r16 != 0) rfl rfl rfl) ?_
      refine s_val (x_mv (v := B (r16 != 0)) rfl) ?_
      refine g_val (!(r16 != 0)) (gy_f rfl) (fun hg => x_mv (v := I r17) rfl) ?_
      refine g_val (!(r16 != 0)) (gy_f rfl) (fun hg => x_cmp (kd := .i64) (a := r17) (b := 0) (r := r17 != 0) (gd_of (c := !(r16 != 0)) hg (I r17)) rfl rfl) ?_
      refine s_val (x_por (b := r16 != 0) (r := r17 != 0) rfl rfl (fun hb => gd_of (c := !(r16 != 0)) (by first | exact hb | (rw [hb]; rfl) | simp_all) (B (r17 != 0)))) ?_
      refine s_val (x_mv (v := B ((r16 != 0) || (r17 != 0))) rfl) ?_
      refine g_val (!((r16 != 0) || (r17 != 0))) (gy_f rfl) (fun hg => x_mv (v := I r3) rfl) ?_
      refine g_val (!((r16 != 0) || (r17 != 0))) (gy_f rfl) (fun hg => x_cmp (kd := .i64) (a := r3) (b := 0) (r := r3 != 0) (gd_of (c := !((r16 != 0) || (r17 != 0))) hg (I r3)) rfl rfl) ?_
      refine s_val (x_por (b := ((r16 != 0) || (r17 != 0))) (r := r3 != 0) rfl rfl (fun hb => gd_of (c := !((r16 != 0) || (r17 != 0))) (by first | exact hb | (rw [hb]; rfl) | simp_all) (B (r3 != 0)))) ?_
      refine s_val (x_mv (v := B (((r16 != 0) || (r17 != 0)) || (r3 != 0))) rfl) ?_
      refine g_val (!(((r16 != 0) || (r17 != 0)) || (r3 != 0))) (gy_f rfl) (fun hg => x_mv (v := I r32) rfl) ?_
      refine g_val (!(((r16 != 0) || (r17 != 0)) || (r3 != 0))) (gy_f rfl) (fun hg => x_cmp (kd := .i64) (a := r32) (b := 0) (r := r32 != 0) (gd_of (c := !(((r16 != 0) || (r17 != 0)) || (r3 != 0))) hg (I r32)) rfl rfl) ?_
      refine s_val (x_por (b := (((r16 != 0) || (r17 != 0)) || (r3 != 0))) (r := r32 != 0) rfl rfl (fun hb => gd_of (c := !(((r16 != 0) || (r17 != 0)) || (r3 != 0))) (by first | exact hb | (rw [hb]; rfl) | simp_all) (B (r32 != 0)))) ?_
      refine s_val (x_mv (v := B ((((r16 != 0) || (r17 != 0)) || (r3 != 0)) || (r32 != 0))) rfl) ?_
      refine g_val (!((((r16 != 0) || (r17 != 0)) || (r3 != 0)) || (r32 != 0))) (gy_f rfl) (fun hg => x_mv (v := I r22) rfl) ?_
      refine g_val (!((((r16 != 0) || (r17 != 0)) || (r3 != 0)) || (r32 != 0))) (gy_f rfl) (fun hg => x_fa (a := .pointer (some ⟨b_6, 0, none⟩)) (v := .pointer (some ⟨b_6, 1, none⟩)) rfl (fa_blk (o := 0) Fd37_1 Sz3)) ?_
      refine g_val (!((((r16 != 0) || (r17 != 0)) || (r3 != 0)) || (r32 != 0))) (gy_f rfl) (fun hg => x_ld (p := .pointer (some ⟨b_6, 1, none⟩)) (v := I r012) (gd_of (c := !((((r16 != 0) || (r17 != 0)) || (r3 != 0)) || (r32 != 0))) hg (.pointer (some ⟨b_6, 1, none⟩))) (ldb_sc Sc3 (H.blk (k := 2) rfl) rfl)) ?_
      refine g_val (!((((r16 != 0) || (r17 != 0)) || (r3 != 0)) || (r32 != 0))) (gy_f rfl) (fun hg => x_cmp (kd := .i64) (a := r22) (b := r012) (r := r22 != r012) (gd_of (c := !((((r16 != 0) || (r17 != 0)) || (r3 != 0)) || (r32 != 0))) hg (I r22)) (gd_of (c := !((((r16 != 0) || (r17 != 0)) || (r3 != 0)) || (r32 != 0))) hg (I r012)) rfl) ?_
      refine s_val (x_por (b := ((((r16 != 0) || (r17 != 0)) || (r3 != 0)) || (r32 != 0))) (r := r22 != r012) rfl rfl (fun hb => gd_of (c := !((((r16 != 0) || (r17 != 0)) || (r3 != 0)) || (r32 != 0))) (by first | exact hb | (rw [hb]; rfl) | simp_all) (B (r22 != r012)))) ?_
      refine s_val (x_mv (v := B (((((r16 != 0) || (r17 != 0)) || (r3 != 0)) || (r32 != 0)) || (r22 != r012))) rfl) ?_
      refine g_val (!(((((r16 != 0) || (r17 != 0)) || (r3 != 0)) || (r32 != 0)) || (r22 != r012))) (gy_f rfl) (fun hg => x_mv (v := I r23) rfl) ?_
      obtain ⟨sd53z, hM⟩ := M.e_grd hM
      replace sd53z := M.imp_of sd53z
      simp only [Bool.and_eq_true, decide_eq_true_eq] at sd53z
      refine g_val (!(((((r16 != 0) || (r17 != 0)) || (r3 != 0)) || (r32 != 0)) || (r22 != r012))) (gy_f rfl) (fun hg => x_neg (a := r23) (gd_of (c := !(((((r16 != 0) || (r17 != 0)) || (r3 != 0)) || (r32 != 0)) || (r22 != r012))) hg (I r23)) (by have h1_ := sd53z.resolve_left (by rw [hg]; decide); first | exact h1_ | exact h1_.1 | exact h1_.2 | omega | (have hx_ := hg; simp at hx_; omega))) ?_
      refine g_val (!(((((r16 != 0) || (r17 != 0)) || (r3 != 0)) || (r32 != 0)) || (r22 != r012))) (gy_f rfl) (fun hg => x_fa (a := .pointer (some ⟨b_6, 0, none⟩)) (v := .pointer (some ⟨b_6, 0, none⟩)) rfl (fa_blk (o := 0) Fd37_0 Sz3)) ?_
      refine g_val (!(((((r16 != 0) || (r17 != 0)) || (r3 != 0)) || (r32 != 0)) || (r22 != r012))) (gy_f rfl) (fun hg => x_ld (p := .pointer (some ⟨b_6, 0, none⟩)) (v := I r002) (gd_of (c := !(((((r16 != 0) || (r17 != 0)) || (r3 != 0)) || (r32 != 0)) || (r22 != r012))) hg (.pointer (some ⟨b_6, 0, none⟩))) (ldb_sc Sc3 (H.blk (k := 2) rfl) rfl)) ?_
      refine g_val (!(((((r16 != 0) || (r17 != 0)) || (r3 != 0)) || (r32 != 0)) || (r22 != r012))) (gy_f rfl) (fun hg => x_cmp (kd := .i64) (a := -r23) (b := r002) (r := (-r23) != r002) (gd_of (c := !(((((r16 != 0) || (r17 != 0)) || (r3 != 0)) || (r32 != 0)) || (r22 != r012))) hg (I (-r23))) (gd_of (c := !(((((r16 != 0) || (r17 != 0)) || (r3 != 0)) || (r32 != 0)) || (r22 != r012))) hg (I r002)) rfl) ?_
      refine s_val (x_por (b := (((((r16 != 0) || (r17 != 0)) || (r3 != 0)) || (r32 != 0)) || (r22 != r012))) (r := (-r23) != r002) rfl rfl (fun hb => gd_of (c := !(((((r16 != 0) || (r17 != 0)) || (r3 != 0)) || (r32 != 0)) || (r22 != r012))) (by first | exact hb | (rw [hb]; rfl) | simp_all) (B ((-r23) != r002)))) ?_
      refine s_nil ?_
      refine W.cond ((((((r16 != 0) || (r17 != 0)) || (r3 != 0)) || (r32 != 0)) || (r22 != r012)) || ((-r23) != r002)) rfl (fun c54z => ?_) (fun c54z => ?_)
      ·replace hM := M.e_t hM c54z
       refine W.seq ?_
       refine W.region rfl ?_
       refine s_val (x_as (v := B false) rfl) ?_
       refine s_nil ?_
       refine W.ret ?_
       have hr_ := M.e_pure hM
       exact ⟨_, resE_tmp rfl, ⟨false, hr_, rfl, (H.pick [] (by decide) rfl)⟩⟩
      ·replace hM := M.e_f hM c54z
       refine W.skip ?_
       exact ⟨_, upds_of _ _ ⟨rfl, rfl, rfl, rfl, trivial⟩, hM, (H.pick [2, 3, 4, 5, 6, 7] (by decide) rfl)⟩
     ·replace hM := M.e_f hM c36z
      simp only [decide_eq_true_eq, decide_eq_false_iff_not, beq_iff_eq, bne_iff_ne, beq_eq_false_iff_ne, bne_eq_false_iff_eq, ne_eq, Decidable.not_not] at c36z
      refine W.skip ?_
      exact ⟨_, upds_of _ _ ⟨rfl, rfl, rfl, rfl, trivial⟩, hM, H⟩
   ·replace hM := M.e_f hM c30z
    simp only [decide_eq_true_eq, decide_eq_false_iff_not, beq_iff_eq, bne_iff_ne, beq_eq_false_iff_ne, bne_eq_false_iff_eq, ne_eq, Decidable.not_not] at c30z
    refine W.seq ?_
    refine W.region rfl ?_
    refine s_val (x_mv (v := I r15) rfl) ?_
    refine s_val (x_cmp (kd := .i64) (a := r15) (b := 5) (r := r15 != 5) rfl rfl rfl) ?_
    refine s_nil ?_
    refine W.cond (r15 != 5) rfl (fun c55z => ?_) (fun c55z => ?_)
    ·replace hM := M.e_t hM c55z
     simp only [decide_eq_true_eq, decide_eq_false_iff_not, beq_iff_eq, bne_iff_ne, beq_eq_false_iff_ne, bne_eq_false_iff_eq, ne_eq, Decidable.not_not] at c55z
     refine W.seq ?_
     refine W.region rfl ?_
     refine s_val (x_as (v := B false) rfl) ?_
     refine s_nil ?_
     refine W.ret ?_
     have hr_ := M.e_pure hM
     exact ⟨_, resE_tmp rfl, ⟨false, hr_, rfl, (H.pick [] (by decide) rfl)⟩⟩
    ·replace hM := M.e_f hM c55z
     simp only [decide_eq_true_eq, decide_eq_false_iff_not, beq_iff_eq, bne_iff_ne, beq_eq_false_iff_ne, bne_eq_false_iff_eq, ne_eq, Decidable.not_not] at c55z
     refine W.skip ?_
     exact ⟨_, upds_of _ _ ⟨rfl, rfl, rfl, rfl, trivial⟩, hM, H⟩
  ·rintro _ w56z ⟨ρ, rfl, hM, H⟩
   unfold m_nilometerlaw01_LevelCloses_j0 at hM
   refine W.seq ?_
   refine W.region rfl ?_
   refine s_val (x_mv (v := .int .u8 which) rfl) ?_
   obtain ⟨sd57z, hM⟩ := M.e_grd hM
   simp only [Bool.and_eq_true, decide_eq_true_eq] at sd57z
   refine s_val (x_conv64 (kd := .u8) (a := which) Try.underlying5 Try.underlying3 rfl (by omega)) ?_
   refine s_val (x_fa (a := .pointer (some ⟨b_4, 0, none⟩)) (v := .pointer (some ⟨b_4, 1, none⟩)) rfl (fa_blk (o := 0) Fd25_1 Sz23)) ?_
   refine s_val (x_ld (p := .pointer (some ⟨b_4, 1, none⟩)) (v := u0_2) rfl (ldb_sc Sc23 (H.blk (k := 2) rfl) rfl)) ?_
   have hl58z := ((ownSl (H.get (k := 3) rfl))).len_le
   refine s_val (x_lenS T23.und rfl (ownSl (H.get (k := 3) rfl))) ?_
   obtain ⟨sd59z, hM⟩ := M.e_grd hM
   simp only [Bool.and_eq_true, decide_eq_true_eq] at sd59z
   refine s_val (x_rem' (a := which) (b := (r01.length : Int)) rfl rfl (by omega)) ?_
   refine s_val (x_as (v := I (which % (r01.length : Int))) rfl) ?_
   refine s_nil ?_
   refine W.seq ?_
   refine W.region rfl ?_
   refine s_val (x_ld (p := .pointer (some ⟨b_4, 0, none⟩)) (v := .agg #[I r00, u0_2]) rfl (ldb_ag (ds := [I r00, u0_2]) Ag25 Sz25 (H.blk (k := 2) rfl) rfl rfl)) ?_
   obtain ⟨r61z, hx60z, hM⟩ := M.e_bind hM
   refine s_call cf15 [.agg #[I r00, u0_2]] rfl (nilometerlaw01_CopyNet_ok r00 r01 (Reads.of (k := 3) rfl ownLe) (ownSl (H.get (k := 3) rfl)) hx60z _ (St.give (T := [cBlk b_6 [I r002, I r012] 37, cOwn (α := Leg) 91 u0_5 r02, cBlk b_4 [I r00, u0_2] 25, cOwn (α := Line) 34 u0_2 r01, cOwn (α := Int) 3 u1_3 r12, cBlk nb0_1 [v_numbers, I q1, I q2] 109]) H rfl)) ?_
   rintro vq w62z ⟨r07, r110, u0_9, hr63z, hvq, H2_⟩
   subst hr63z
   subst vq
   try dsimp only at hM
   replace H : St w w62z [cOwn (α := Line) 34 u0_9 r110, cBlk b_6 [I r002, I r012] 37, cOwn (α := Leg) 91 u0_5 r02, cBlk b_4 [I r00, u0_2] 25, cOwn (α := Line) 34 u0_2 r01, cOwn (α := Int) 3 u1_3 r12, cBlk nb0_1 [v_numbers, I q1, I q2] 109] R := H.back H2_ rfl
   clear H2_
   refine t_alloc (cs := [I 0, .slice none 0 0]) H Al25 rfl ?_
   intro b_10 w64z H
   refine t_st (k := 0) (b := b_10) (off := 0) (cs := [I 0, .slice none 0 0]) (vs := [I r07, u0_9]) (cs' := [I r07, u0_9]) (v := .agg #[I r07, u0_9]) (L' := [cBlk b_10 [I r07, u0_9] 25, cOwn (α := Line) 34 u0_9 r110, cBlk b_6 [I r002, I r012] 37, cOwn (α := Leg) 91 u0_5 r02, cBlk b_4 [I r00, u0_2] 25, cOwn (α := Line) 34 u0_2 r01, cOwn (α := Int) 3 u1_3 r12, cBlk nb0_1 [v_numbers, I q1, I q2] 109]) H rfl rfl rfl Sz25 rfl rfl rfl (by simp only [List.all_cons, List.all_nil, Bool.true_and, Bool.and_true, Sl.oc (ownSl (H.get (k := 1) rfl))]; try rfl) rfl rfl ?_
   intro w65z H
   refine s_nil ?_
   refine W.seq ?_
   refine W.region rfl ?_
   refine s_val (x_fa (a := .pointer (some ⟨b_10, 0, none⟩)) (v := .pointer (some ⟨b_10, 1, none⟩)) rfl (fa_blk (o := 0) Fd25_1 Sz23)) ?_
   refine s_val (x_ld (p := .pointer (some ⟨b_10, 1, none⟩)) (v := u0_9) rfl (ldb_sc Sc23 (H.blk (k := 0) rfl) rfl)) ?_
   refine s_val (x_mv (v := I (which % (r01.length : Int))) rfl) ?_
   refine s_val (x_mv (v := I (which % (r01.length : Int))) rfl) ?_
   obtain ⟨sd66z, hM⟩ := M.e_grd hM
   simp only [Bool.and_eq_true, decide_eq_true_eq] at sd66z
   refine s_val (x_ari (a := which % (r01.length : Int)) (b := 1) (r := (which % (r01.length : Int)) + 1) rfl rfl rfl (by omega)) ?_
   obtain ⟨sd67z, hM⟩ := M.e_grd hM
   simp only [Bool.and_eq_true, decide_eq_true_eq] at sd67z
   refine s_call cf52 [u0_9, I (which % (r01.length : Int)), I ((which % (r01.length : Int)) + 1)] rfl (delete_any (H.get (k := 1) rfl) (by omega) (by omega) (by omega)) ?_
   rintro v68z w69z ⟨ho_, hg_, hu_⟩
   replace H : St w w69z [cBlk b_10 [I r07, u0_9] 25, cOwn (α := Line) 34 v68z (r110.take (Int.toNat (which % (r01.length : Int))) ++ r110.drop (Int.toNat ((which % (r01.length : Int)) + 1))), cBlk b_6 [I r002, I r012] 37, cOwn (α := Leg) 91 u0_5 r02, cBlk b_4 [I r00, u0_2] 25, cOwn (α := Line) 34 u0_2 r01, cOwn (α := Int) 3 u1_3 r12, cBlk nb0_1 [v_numbers, I q1, I q2] 109] R := H.own (k := 1) rfl ho_ hg_ (fun b_ _ h_ => by rw [hu_]; exact h_) rfl
   clear ho_ hg_ hu_
   refine s_val (x_fa (a := .pointer (some ⟨b_10, 0, none⟩)) (v := .pointer (some ⟨b_10, 1, none⟩)) rfl (fa_blk (o := 0) Fd25_1 Sz23)) ?_
   refine t_st (k := 0) (b := b_10) (off := 1) (cs := [I r07, u0_9]) (vs := [v68z]) (cs' := [I r07, v68z]) (v := v68z) (L' := [cBlk b_10 [I r07, v68z] 25, cOwn (α := Line) 34 v68z (r110.take (Int.toNat (which % (r01.length : Int))) ++ r110.drop (Int.toNat ((which % (r01.length : Int)) + 1))), cBlk b_6 [I r002, I r012] 37, cOwn (α := Leg) 91 u0_5 r02, cBlk b_4 [I r00, u0_2] 25, cOwn (α := Line) 34 u0_2 r01, cOwn (α := Int) 3 u1_3 r12, cBlk nb0_1 [v_numbers, I q1, I q2] 109]) H rfl rfl rfl Sz23 (Sl.cells (ownSl (H.get (k := 1) rfl))) rfl rfl (by simp only [List.all_cons, List.all_nil, Bool.true_and, Bool.and_true, Sl.oc (ownSl (H.get (k := 1) rfl))]; try rfl) rfl rfl ?_
   intro w70z H
   refine s_nil ?_
   refine W.seq ?_
   refine W.region rfl ?_
   refine s_val (x_fa (a := .pointer (some ⟨b_4, 0, none⟩)) (v := .pointer (some ⟨b_4, 1, none⟩)) rfl (fa_blk (o := 0) Fd25_1 Sz23)) ?_
   refine s_val (x_ld (p := .pointer (some ⟨b_4, 1, none⟩)) (v := u0_2) rfl (ldb_sc Sc23 (H.blk (k := 4) rfl) rfl)) ?_
   refine s_val (x_mv (v := I (which % (r01.length : Int))) rfl) ?_
   obtain ⟨sd71z, hM⟩ := M.e_grd hM
   simp only [Bool.and_eq_true, decide_eq_true_eq] at sd71z
   refine s_val (x_ix (a := u0_2) (b := I (which % (r01.length : Int))) (v := vat u0_2 5 (Int.toNat (which % (r01.length : Int)))) rfl rfl (Sl.ix (α := Line) T23.und T23.size (ownSl (H.get (k := 5) rfl)) (by omega) (by omega))) ?_
   refine s_val (x_ld (p := vat u0_2 5 (Int.toNat (which % (r01.length : Int)))) (v := .agg #[I ((r01.getD (Int.toNat (which % (r01.length : Int))) default).src), I ((r01.getD (Int.toNat (which % (r01.length : Int))) default).dst), I ((r01.getD (Int.toNat (which % (r01.length : Int))) default).day), I ((r01.getD (Int.toNat (which % (r01.length : Int))) default).rise), I ((r01.getD (Int.toNat (which % (r01.length : Int))) default).err)]) rfl (ld_ag Ag34 Sz34 (At.mono (Line_atA (ownSl (H.get (k := 5) rfl)) (i := which % (r01.length : Int)) (by omega) (by omega)) (ownLe _ (H.get (k := 5) rfl))))) ?_
   refine t_alloc (cs := [I 0, I 0, I 0, I 0, I 0]) H Al34 rfl ?_
   intro b_11 w72z H
   refine t_st (k := 0) (b := b_11) (off := 0) (cs := [I 0, I 0, I 0, I 0, I 0]) (vs := [I ((r01.getD (Int.toNat (which % (r01.length : Int))) default).src), I ((r01.getD (Int.toNat (which % (r01.length : Int))) default).dst), I ((r01.getD (Int.toNat (which % (r01.length : Int))) default).day), I ((r01.getD (Int.toNat (which % (r01.length : Int))) default).rise), I ((r01.getD (Int.toNat (which % (r01.length : Int))) default).err)]) (cs' := [I ((r01.getD (Int.toNat (which % (r01.length : Int))) default).src), I ((r01.getD (Int.toNat (which % (r01.length : Int))) default).dst), I ((r01.getD (Int.toNat (which % (r01.length : Int))) default).day), I ((r01.getD (Int.toNat (which % (r01.length : Int))) default).rise), I ((r01.getD (Int.toNat (which % (r01.length : Int))) default).err)]) (v := .agg #[I ((r01.getD (Int.toNat (which % (r01.length : Int))) default).src), I ((r01.getD (Int.toNat (which % (r01.length : Int))) default).dst), I ((r01.getD (Int.toNat (which % (r01.length : Int))) default).day), I ((r01.getD (Int.toNat (which % (r01.length : Int))) default).rise), I ((r01.getD (Int.toNat (which % (r01.length : Int))) default).err)]) (L' := [cBlk b_11 [I ((r01.getD (Int.toNat (which % (r01.length : Int))) default).src), I ((r01.getD (Int.toNat (which % (r01.length : Int))) default).dst), I ((r01.getD (Int.toNat (which % (r01.length : Int))) default).day), I ((r01.getD (Int.toNat (which % (r01.length : Int))) default).rise), I ((r01.getD (Int.toNat (which % (r01.length : Int))) default).err)] 34, cBlk b_10 [I r07, v68z] 25, cOwn (α := Line) 34 v68z (r110.take (Int.toNat (which % (r01.length : Int))) ++ r110.drop (Int.toNat ((which % (r01.length : Int)) + 1))), cBlk b_6 [I r002, I r012] 37, cOwn (α := Leg) 91 u0_5 r02, cBlk b_4 [I r00, u0_2] 25, cOwn (α := Line) 34 u0_2 r01, cOwn (α := Int) 3 u1_3 r12, cBlk nb0_1 [v_numbers, I q1, I q2] 109]) H rfl rfl rfl Sz34 rfl rfl rfl rfl rfl rfl ?_
   intro w73z H
   refine s_nil ?_
   refine W.seq ?_
   refine W.region rfl ?_
   refine s_val (x_ld (p := .pointer (some ⟨b_10, 0, none⟩)) (v := .agg #[I r07, v68z]) rfl (ldb_ag (ds := [I r07, v68z]) Ag25 Sz25 (H.blk (k := 1) rfl) rfl rfl)) ?_
   refine s_val (x_fa (a := .pointer (some ⟨b_11, 0, none⟩)) (v := .pointer (some ⟨b_11, 0, none⟩)) rfl (fa_blk (o := 0) Fd34_0 Sz3)) ?_
   refine s_val (x_ld (p := .pointer (some ⟨b_11, 0, none⟩)) (v := I ((r01.getD (Int.toNat (which % (r01.length : Int))) default).src)) rfl (ldb_sc Sc3 (H.blk (k := 0) rfl) rfl)) ?_
   refine s_val (x_fa (a := .pointer (some ⟨b_11, 0, none⟩)) (v := .pointer (some ⟨b_11, 1, none⟩)) rfl (fa_blk (o := 0) Fd34_1 Sz3)) ?_
   refine s_val (x_ld (p := .pointer (some ⟨b_11, 1, none⟩)) (v := I ((r01.getD (Int.toNat (which % (r01.length : Int))) default).dst)) rfl (ldb_sc Sc3 (H.blk (k := 0) rfl) rfl)) ?_
   obtain ⟨r75z, hx74z, hM⟩ := M.e_bind hM
   refine s_call cf17 [.agg #[I r07, v68z], I ((r01.getD (Int.toNat (which % (r01.length : Int))) default).src), I ((r01.getD (Int.toNat (which % (r01.length : Int))) default).dst)] rfl (level_Between_ok r07 (r110.take (Int.toNat (which % (r01.length : Int))) ++ r110.drop (Int.toNat ((which % (r01.length : Int)) + 1))) ((r01.getD (Int.toNat (which % (r01.length : Int))) default).src) ((r01.getD (Int.toNat (which % (r01.length : Int))) default).dst) (Reads.of (k := 2) rfl ownLe) (ownSl (H.get (k := 2) rfl)) hx74z _ (St.give (T := [cBlk b_11 [I ((r01.getD (Int.toNat (which % (r01.length : Int))) default).src), I ((r01.getD (Int.toNat (which % (r01.length : Int))) default).dst), I ((r01.getD (Int.toNat (which % (r01.length : Int))) default).day), I ((r01.getD (Int.toNat (which % (r01.length : Int))) default).rise), I ((r01.getD (Int.toNat (which % (r01.length : Int))) default).err)] 34, cBlk b_10 [I r07, v68z] 25, cOwn (α := Line) 34 v68z (r110.take (Int.toNat (which % (r01.length : Int))) ++ r110.drop (Int.toNat ((which % (r01.length : Int)) + 1))), cBlk b_6 [I r002, I r012] 37, cOwn (α := Leg) 91 u0_5 r02, cBlk b_4 [I r00, u0_2] 25, cOwn (α := Line) 34 u0_2 r01, cOwn (α := Int) 3 u1_3 r12, cBlk nb0_1 [v_numbers, I q1, I q2] 109]) H rfl)) ?_
   rintro vq w76z ⟨r003, r013, r111, hr77z, hvq, H2_⟩
   subst hr77z
   subst vq
   try dsimp only at hM
   replace H : St w w76z [cBlk b_11 [I ((r01.getD (Int.toNat (which % (r01.length : Int))) default).src), I ((r01.getD (Int.toNat (which % (r01.length : Int))) default).dst), I ((r01.getD (Int.toNat (which % (r01.length : Int))) default).day), I ((r01.getD (Int.toNat (which % (r01.length : Int))) default).rise), I ((r01.getD (Int.toNat (which % (r01.length : Int))) default).err)] 34, cBlk b_10 [I r07, v68z] 25, cOwn (α := Line) 34 v68z (r110.take (Int.toNat (which % (r01.length : Int))) ++ r110.drop (Int.toNat ((which % (r01.length : Int)) + 1))), cBlk b_6 [I r002, I r012] 37, cOwn (α := Leg) 91 u0_5 r02, cBlk b_4 [I r00, u0_2] 25, cOwn (α := Line) 34 u0_2 r01, cOwn (α := Int) 3 u1_3 r12, cBlk nb0_1 [v_numbers, I q1, I q2] 109] R := H.back H2_ rfl
   clear H2_
   refine s_val (x_mv (v := .tuple #[.agg #[I r003, I r013], I r111]) rfl) ?_
   refine s_val (x_ext (vs := [.agg #[I r003, I r013], I r111]) (v := .agg #[I r003, I r013]) rfl rfl) ?_
   refine s_val (x_ext (vs := [.agg #[I r003, I r013], I r111]) (v := I r111) rfl rfl) ?_
   refine t_st (k := 3) (b := b_6) (off := 0) (cs := [I r002, I r012]) (vs := [I r003, I r013]) (cs' := [I r003, I r013]) (v := .agg #[I r003, I r013]) (L' := [cBlk b_11 [I ((r01.getD (Int.toNat (which % (r01.length : Int))) default).src), I ((r01.getD (Int.toNat (which % (r01.length : Int))) default).dst), I ((r01.getD (Int.toNat (which % (r01.length : Int))) default).day), I ((r01.getD (Int.toNat (which % (r01.length : Int))) default).rise), I ((r01.getD (Int.toNat (which % (r01.length : Int))) default).err)] 34, cBlk b_10 [I r07, v68z] 25, cOwn (α := Line) 34 v68z (r110.take (Int.toNat (which % (r01.length : Int))) ++ r110.drop (Int.toNat ((which % (r01.length : Int)) + 1))), cBlk b_6 [I r003, I r013] 37, cOwn (α := Leg) 91 u0_5 r02, cBlk b_4 [I r00, u0_2] 25, cOwn (α := Line) 34 u0_2 r01, cOwn (α := Int) 3 u1_3 r12, cBlk nb0_1 [v_numbers, I q1, I q2] 109]) H rfl rfl rfl Sz37 rfl rfl rfl rfl rfl rfl ?_
   intro w78z H
   refine s_val (x_as (v := I r111) rfl) ?_
   refine s_nil ?_
   refine W.seq ?_
   refine W.seq ?_
   refine W.region rfl ?_
   refine s_val (x_mv (v := I r111) rfl) ?_
   refine s_val (x_cmp (kd := .i64) (a := r111) (b := 0) (r := r111 != 0) rfl rfl rfl) ?_
   refine s_nil ?_
   refine W.cond (r111 != 0) rfl (fun c79z => ?_) (fun c79z => ?_)
   ·replace hM := M.e_t hM c79z
    simp only [decide_eq_true_eq, decide_eq_false_iff_not, beq_iff_eq, bne_iff_ne, beq_eq_false_iff_ne, bne_eq_false_iff_eq, ne_eq, Decidable.not_not] at c79z
    refine W.seq ?_
    refine W.region rfl ?_
    refine s_val (x_mv (v := I r111) rfl) ?_
    refine s_val (x_cmp (kd := .i64) (a := r111) (b := 5) (r := r111 == 5) rfl rfl rfl) ?_
    refine s_val (x_mv (v := B (r111 == 5)) rfl) ?_
    obtain ⟨r4, hx80z, hM⟩ := M.e_bind hM
    refine t_gcall (r111 == 5) (gy_t rfl) cf18 (B r4) (fun _ => []) (fun _ => rfl) H (fun hg => (nilometerlaw01_awake_ok (M.e_opt hx80z hg) _ (H.give (A := []) rfl)).mono fun v_ w_ ⟨y_, hr_, hv_, H_⟩ => by subst hr_; exact ⟨hv_, H.via H_⟩) ?_
    intro w81z H
    refine s_val (x_pand (b := r111 == 5) (r := r4) rfl (fun hb => gd_of (c := r111 == 5) (by first | exact hb | (rw [hb]; rfl) | simp_all) (B r4)) rfl) ?_
    refine s_val (x_as (v := B ((r111 == 5) && r4)) rfl) ?_
    refine s_nil ?_
    refine W.ret ?_
    have hr_ := M.e_pure hM
    exact ⟨_, resE_tmp rfl, ⟨((r111 == 5) && r4), hr_, rfl, (H.pick [] (by decide) rfl)⟩⟩
   ·replace hM := M.e_f hM c79z
    simp only [decide_eq_true_eq, decide_eq_false_iff_not, beq_iff_eq, bne_iff_ne, beq_eq_false_iff_ne, bne_eq_false_iff_eq, ne_eq, Decidable.not_not] at c79z
    refine W.skip ?_
    refine W.seq ?_
    refine W.region rfl ?_
    refine s_val (x_fa (a := .pointer (some ⟨b_6, 0, none⟩)) (v := .pointer (some ⟨b_6, 1, none⟩)) rfl (fa_blk (o := 0) Fd37_1 Sz3)) ?_
    refine s_val (x_ld (p := .pointer (some ⟨b_6, 1, none⟩)) (v := I r013) rfl (ldb_sc Sc3 (H.blk (k := 3) rfl) rfl)) ?_
    refine s_val (x_fa (a := .pointer (some ⟨b_11, 0, none⟩)) (v := .pointer (some ⟨b_11, 4, none⟩)) rfl (fa_blk (o := 0) Fd34_4 Sz3)) ?_
    refine s_val (x_ld (p := .pointer (some ⟨b_11, 4, none⟩)) (v := I ((r01.getD (Int.toNat (which % (r01.length : Int))) default).err)) rfl (ldb_sc Sc3 (H.blk (k := 0) rfl) rfl)) ?_
    obtain ⟨sd82z, hM⟩ := M.e_grd hM
    simp only [Bool.and_eq_true, decide_eq_true_eq] at sd82z
    refine s_val (x_ari (a := r013) (b := (r01.getD (Int.toNat (which % (r01.length : Int))) default).err) (r := r013 + ((r01.getD (Int.toNat (which % (r01.length : Int))) default).err)) rfl rfl rfl (by omega)) ?_
    obtain ⟨sd83z, hM⟩ := M.e_grd hM
    simp only [Bool.and_eq_true, decide_eq_true_eq] at sd83z
    refine s_val (x_ari (a := r013 + ((r01.getD (Int.toNat (which % (r01.length : Int))) default).err)) (b := 1) (r := (r013 + ((r01.getD (Int.toNat (which % (r01.length : Int))) default).err)) + 1) rfl rfl rfl (by omega)) ?_
    refine s_val (x_mv (v := .int .u8 wrong) rfl) ?_
    obtain ⟨sd84z, hM⟩ := M.e_grd hM
    simp only [Bool.and_eq_true, decide_eq_true_eq] at sd84z
    refine s_val (x_conv64 (kd := .u8) (a := wrong) Try.underlying5 Try.underlying3 rfl (by omega)) ?_
    obtain ⟨sd85z, hM⟩ := M.e_grd hM
    simp only [Bool.and_eq_true, decide_eq_true_eq] at sd85z
    refine s_val (x_ari (a := (r013 + ((r01.getD (Int.toNat (which % (r01.length : Int))) default).err)) + 1) (b := wrong) (r := ((r013 + ((r01.getD (Int.toNat (which % (r01.length : Int))) default).err)) + 1) + wrong) rfl rfl rfl (by omega)) ?_
    refine s_val (x_fa (a := .pointer (some ⟨b_11, 0, none⟩)) (v := .pointer (some ⟨b_11, 3, none⟩)) rfl (fa_blk (o := 0) Fd34_3 Sz3)) ?_
    refine t_st (k := 0) (b := b_11) (off := 3) (cs := [I ((r01.getD (Int.toNat (which % (r01.length : Int))) default).src), I ((r01.getD (Int.toNat (which % (r01.length : Int))) default).dst), I ((r01.getD (Int.toNat (which % (r01.length : Int))) default).day), I ((r01.getD (Int.toNat (which % (r01.length : Int))) default).rise), I ((r01.getD (Int.toNat (which % (r01.length : Int))) default).err)]) (vs := [I (((r013 + ((r01.getD (Int.toNat (which % (r01.length : Int))) default).err)) + 1) + wrong)]) (cs' := [I ((r01.getD (Int.toNat (which % (r01.length : Int))) default).src), I ((r01.getD (Int.toNat (which % (r01.length : Int))) default).dst), I ((r01.getD (Int.toNat (which % (r01.length : Int))) default).day), I (((r013 + ((r01.getD (Int.toNat (which % (r01.length : Int))) default).err)) + 1) + wrong), I ((r01.getD (Int.toNat (which % (r01.length : Int))) default).err)]) (v := I (((r013 + ((r01.getD (Int.toNat (which % (r01.length : Int))) default).err)) + 1) + wrong)) (L' := [cBlk b_11 [I ((r01.getD (Int.toNat (which % (r01.length : Int))) default).src), I ((r01.getD (Int.toNat (which % (r01.length : Int))) default).dst), I ((r01.getD (Int.toNat (which % (r01.length : Int))) default).day), I (((r013 + ((r01.getD (Int.toNat (which % (r01.length : Int))) default).err)) + 1) + wrong), I ((r01.getD (Int.toNat (which % (r01.length : Int))) default).err)] 34, cBlk b_10 [I r07, v68z] 25, cOwn (α := Line) 34 v68z (r110.take (Int.toNat (which % (r01.length : Int))) ++ r110.drop (Int.toNat ((which % (r01.length : Int)) + 1))), cBlk b_6 [I r003, I r013] 37, cOwn (α := Leg) 91 u0_5 r02, cBlk b_4 [I r00, u0_2] 25, cOwn (α := Line) 34 u0_2 r01, cOwn (α := Int) 3 u1_3 r12, cBlk nb0_1 [v_numbers, I q1, I q2] 109]) H rfl rfl rfl Sz3 rfl rfl rfl rfl rfl rfl ?_
    intro w86z H
    refine s_nil ?_
    refine W.seq ?_
    refine W.region rfl ?_
    refine s_val (x_fa (a := .pointer (some ⟨b_10, 0, none⟩)) (v := .pointer (some ⟨b_10, 1, none⟩)) rfl (fa_blk (o := 0) Fd25_1 Sz23)) ?_
    refine s_val (x_ld (p := .pointer (some ⟨b_10, 1, none⟩)) (v := v68z) rfl (ldb_sc Sc23 (H.blk (k := 1) rfl) rfl)) ?_
    refine s_val (x_ld (p := .pointer (some ⟨b_11, 0, none⟩)) (v := .agg #[I ((r01.getD (Int.toNat (which % (r01.length : Int))) default).src), I ((r01.getD (Int.toNat (which % (r01.length : Int))) default).dst), I ((r01.getD (Int.toNat (which % (r01.length : Int))) default).day), I (((r013 + ((r01.getD (Int.toNat (which % (r01.length : Int))) default).err)) + 1) + wrong), I ((r01.getD (Int.toNat (which % (r01.length : Int))) default).err)]) rfl (ldb_ag (ds := [I ((r01.getD (Int.toNat (which % (r01.length : Int))) default).src), I ((r01.getD (Int.toNat (which % (r01.length : Int))) default).dst), I ((r01.getD (Int.toNat (which % (r01.length : Int))) default).day), I (((r013 + ((r01.getD (Int.toNat (which % (r01.length : Int))) default).err)) + 1) + wrong), I ((r01.getD (Int.toNat (which % (r01.length : Int))) default).err)]) Ag34 Sz34 (H.blk (k := 0) rfl) rfl rfl)) ?_
    refine t_bs (α := Line) T23 [.agg #[I ((r01.getD (Int.toNat (which % (r01.length : Int))) default).src), I ((r01.getD (Int.toNat (which % (r01.length : Int))) default).dst), I ((r01.getD (Int.toNat (which % (r01.length : Int))) default).day), I (((r013 + ((r01.getD (Int.toNat (which % (r01.length : Int))) default).err)) + 1) + wrong), I ((r01.getD (Int.toNat (which % (r01.length : Int))) default).err)]] [(⟨((r01.getD (Int.toNat (which % (r01.length : Int))) default).src : Int), ((r01.getD (Int.toNat (which % (r01.length : Int))) default).dst : Int), ((r01.getD (Int.toNat (which % (r01.length : Int))) default).day : Int), (((r013 + ((r01.getD (Int.toNat (which % (r01.length : Int))) default).err)) + 1) + wrong : Int), ((r01.getD (Int.toNat (which % (r01.length : Int))) default).err : Int)⟩ : Line)] H rfl (.cons rfl (Flat.rep_enc _ (⟨((r01.getD (Int.toNat (which % (r01.length : Int))) default).src : Int), ((r01.getD (Int.toNat (which % (r01.length : Int))) default).dst : Int), ((r01.getD (Int.toNat (which % (r01.length : Int))) default).day : Int), (((r013 + ((r01.getD (Int.toNat (which % (r01.length : Int))) default).err)) + 1) + wrong : Int), ((r01.getD (Int.toNat (which % (r01.length : Int))) default).err : Int)⟩ : Line)) <| .nil) rfl rfl rfl ?_
    intro v87z w88z H
    obtain ⟨sd89z, hM⟩ := M.e_grd hM
    simp only [Bool.and_eq_true, decide_eq_true_eq] at sd89z
    refine t_app (α := Line) (k := 3) (l := r110.take (Int.toNat (which % (r01.length : Int))) ++ r110.drop (Int.toNat ((which % (r01.length : Int)) + 1))) (l2 := [(⟨((r01.getD (Int.toNat (which % (r01.length : Int))) default).src : Int), ((r01.getD (Int.toNat (which % (r01.length : Int))) default).dst : Int), ((r01.getD (Int.toNat (which % (r01.length : Int))) default).day : Int), (((r013 + ((r01.getD (Int.toNat (which % (r01.length : Int))) default).err)) + 1) + wrong : Int), ((r01.getD (Int.toNat (which % (r01.length : Int))) default).err : Int)⟩ : Line)]) (l' := (r110.take (Int.toNat (which % (r01.length : Int))) ++ r110.drop (Int.toNat ((which % (r01.length : Int)) + 1))) ++ ([(⟨((r01.getD (Int.toNat (which % (r01.length : Int))) default).src : Int), ((r01.getD (Int.toNat (which % (r01.length : Int))) default).dst : Int), ((r01.getD (Int.toNat (which % (r01.length : Int))) default).day : Int), (((r013 + ((r01.getD (Int.toNat (which % (r01.length : Int))) default).err)) + 1) + wrong : Int), ((r01.getD (Int.toNat (which % (r01.length : Int))) default).err : Int)⟩ : Line)])) (vy := v87z) T23 rfl H rfl rfl rfl (ownSl (H.get (k := 0) rfl)) (ownLe _ (H.get (k := 0) rfl)) (rfl) (by first | omega | (simp only [List.length_nil] at *; omega)) ?_
    intro v90z w91z H
    replace H : St w w91z [cOwn (α := Line) 34 v87z ([(⟨((r01.getD (Int.toNat (which % (r01.length : Int))) default).src : Int), ((r01.getD (Int.toNat (which % (r01.length : Int))) default).dst : Int), ((r01.getD (Int.toNat (which % (r01.length : Int))) default).day : Int), (((r013 + ((r01.getD (Int.toNat (which % (r01.length : Int))) default).err)) + 1) + wrong : Int), ((r01.getD (Int.toNat (which % (r01.length : Int))) default).err : Int)⟩ : Line)]), cBlk b_11 [I ((r01.getD (Int.toNat (which % (r01.length : Int))) default).src), I ((r01.getD (Int.toNat (which % (r01.length : Int))) default).dst), I ((r01.getD (Int.toNat (which % (r01.length : Int))) default).day), I (((r013 + ((r01.getD (Int.toNat (which % (r01.length : Int))) default).err)) + 1) + wrong), I ((r01.getD (Int.toNat (which % (r01.length : Int))) default).err)] 34, cBlk b_10 [I r07, v68z] 25, cOwn (α := Line) 34 v90z ((r110.take (Int.toNat (which % (r01.length : Int))) ++ r110.drop (Int.toNat ((which % (r01.length : Int)) + 1))) ++ ([(⟨((r01.getD (Int.toNat (which % (r01.length : Int))) default).src : Int), ((r01.getD (Int.toNat (which % (r01.length : Int))) default).dst : Int), ((r01.getD (Int.toNat (which % (r01.length : Int))) default).day : Int), (((r013 + ((r01.getD (Int.toNat (which % (r01.length : Int))) default).err)) + 1) + wrong : Int), ((r01.getD (Int.toNat (which % (r01.length : Int))) default).err : Int)⟩ : Line)])), cBlk b_6 [I r003, I r013] 37, cOwn (α := Leg) 91 u0_5 r02, cBlk b_4 [I r00, u0_2] 25, cOwn (α := Line) 34 u0_2 r01, cOwn (α := Int) 3 u1_3 r12, cBlk nb0_1 [v_numbers, I q1, I q2] 109] R := H
    refine s_val (x_fa (a := .pointer (some ⟨b_10, 0, none⟩)) (v := .pointer (some ⟨b_10, 1, none⟩)) rfl (fa_blk (o := 0) Fd25_1 Sz23)) ?_
    refine t_st (k := 2) (b := b_10) (off := 1) (cs := [I r07, v68z]) (vs := [v90z]) (cs' := [I r07, v90z]) (v := v90z) (L' := [cOwn (α := Line) 34 v87z ([(⟨((r01.getD (Int.toNat (which % (r01.length : Int))) default).src : Int), ((r01.getD (Int.toNat (which % (r01.length : Int))) default).dst : Int), ((r01.getD (Int.toNat (which % (r01.length : Int))) default).day : Int), (((r013 + ((r01.getD (Int.toNat (which % (r01.length : Int))) default).err)) + 1) + wrong : Int), ((r01.getD (Int.toNat (which % (r01.length : Int))) default).err : Int)⟩ : Line)]), cBlk b_11 [I ((r01.getD (Int.toNat (which % (r01.length : Int))) default).src), I ((r01.getD (Int.toNat (which % (r01.length : Int))) default).dst), I ((r01.getD (Int.toNat (which % (r01.length : Int))) default).day), I (((r013 + ((r01.getD (Int.toNat (which % (r01.length : Int))) default).err)) + 1) + wrong), I ((r01.getD (Int.toNat (which % (r01.length : Int))) default).err)] 34, cBlk b_10 [I r07, v90z] 25, cOwn (α := Line) 34 v90z ((r110.take (Int.toNat (which % (r01.length : Int))) ++ r110.drop (Int.toNat ((which % (r01.length : Int)) + 1))) ++ ([(⟨((r01.getD (Int.toNat (which % (r01.length : Int))) default).src : Int), ((r01.getD (Int.toNat (which % (r01.length : Int))) default).dst : Int), ((r01.getD (Int.toNat (which % (r01.length : Int))) default).day : Int), (((r013 + ((r01.getD (Int.toNat (which % (r01.length : Int))) default).err)) + 1) + wrong : Int), ((r01.getD (Int.toNat (which % (r01.length : Int))) default).err : Int)⟩ : Line)])), cBlk b_6 [I r003, I r013] 37, cOwn (α := Leg) 91 u0_5 r02, cBlk b_4 [I r00, u0_2] 25, cOwn (α := Line) 34 u0_2 r01, cOwn (α := Int) 3 u1_3 r12, cBlk nb0_1 [v_numbers, I q1, I q2] 109]) H rfl rfl rfl Sz23 (Sl.cells (ownSl (H.get (k := 3) rfl))) rfl rfl (by simp only [List.all_cons, List.all_nil, Bool.true_and, Bool.and_true, Sl.oc (ownSl (H.get (k := 3) rfl))]; try rfl) rfl rfl ?_
    intro w92z H
    refine s_nil ?_
    refine W.seq ?_
    refine W.region rfl ?_
    refine s_val (x_ld (p := .pointer (some ⟨b_10, 0, none⟩)) (v := .agg #[I r07, v90z]) rfl (ldb_ag (ds := [I r07, v90z]) Ag25 Sz25 (H.blk (k := 2) rfl) rfl rfl)) ?_
    obtain ⟨r94z, hx93z, hM⟩ := M.e_bind hM
    refine s_call cf23 [.agg #[I r07, v90z]] rfl (level_Agrees_ok r07 ((r110.take (Int.toNat (which % (r01.length : Int))) ++ r110.drop (Int.toNat ((which % (r01.length : Int)) + 1))) ++ ([(⟨((r01.getD (Int.toNat (which % (r01.length : Int))) default).src : Int), ((r01.getD (Int.toNat (which % (r01.length : Int))) default).dst : Int), ((r01.getD (Int.toNat (which % (r01.length : Int))) default).day : Int), (((r013 + ((r01.getD (Int.toNat (which % (r01.length : Int))) default).err)) + 1) + wrong : Int), ((r01.getD (Int.toNat (which % (r01.length : Int))) default).err : Int)⟩ : Line)])) (Reads.of (k := 3) rfl ownLe) (ownSl (H.get (k := 3) rfl)) hx93z _ (St.give (T := [cOwn (α := Line) 34 v87z ([(⟨((r01.getD (Int.toNat (which % (r01.length : Int))) default).src : Int), ((r01.getD (Int.toNat (which % (r01.length : Int))) default).dst : Int), ((r01.getD (Int.toNat (which % (r01.length : Int))) default).day : Int), (((r013 + ((r01.getD (Int.toNat (which % (r01.length : Int))) default).err)) + 1) + wrong : Int), ((r01.getD (Int.toNat (which % (r01.length : Int))) default).err : Int)⟩ : Line)]), cBlk b_11 [I ((r01.getD (Int.toNat (which % (r01.length : Int))) default).src), I ((r01.getD (Int.toNat (which % (r01.length : Int))) default).dst), I ((r01.getD (Int.toNat (which % (r01.length : Int))) default).day), I (((r013 + ((r01.getD (Int.toNat (which % (r01.length : Int))) default).err)) + 1) + wrong), I ((r01.getD (Int.toNat (which % (r01.length : Int))) default).err)] 34, cBlk b_10 [I r07, v90z] 25, cOwn (α := Line) 34 v90z ((r110.take (Int.toNat (which % (r01.length : Int))) ++ r110.drop (Int.toNat ((which % (r01.length : Int)) + 1))) ++ ([(⟨((r01.getD (Int.toNat (which % (r01.length : Int))) default).src : Int), ((r01.getD (Int.toNat (which % (r01.length : Int))) default).dst : Int), ((r01.getD (Int.toNat (which % (r01.length : Int))) default).day : Int), (((r013 + ((r01.getD (Int.toNat (which % (r01.length : Int))) default).err)) + 1) + wrong : Int), ((r01.getD (Int.toNat (which % (r01.length : Int))) default).err : Int)⟩ : Line)])), cBlk b_6 [I r003, I r013] 37, cOwn (α := Leg) 91 u0_5 r02, cBlk b_4 [I r00, u0_2] 25, cOwn (α := Line) 34 u0_2 r01, cOwn (α := Int) 3 u1_3 r12, cBlk nb0_1 [v_numbers, I q1, I q2] 109]) H rfl)) ?_
    rintro vq w95z ⟨r08, r112, hr96z, hvq, H2_⟩
    subst hr96z
    subst vq
    try dsimp only at hM
    replace H : St w w95z [cOwn (α := Line) 34 v87z ([(⟨((r01.getD (Int.toNat (which % (r01.length : Int))) default).src : Int), ((r01.getD (Int.toNat (which % (r01.length : Int))) default).dst : Int), ((r01.getD (Int.toNat (which % (r01.length : Int))) default).day : Int), (((r013 + ((r01.getD (Int.toNat (which % (r01.length : Int))) default).err)) + 1) + wrong : Int), ((r01.getD (Int.toNat (which % (r01.length : Int))) default).err : Int)⟩ : Line)]), cBlk b_11 [I ((r01.getD (Int.toNat (which % (r01.length : Int))) default).src), I ((r01.getD (Int.toNat (which % (r01.length : Int))) default).dst), I ((r01.getD (Int.toNat (which % (r01.length : Int))) default).day), I (((r013 + ((r01.getD (Int.toNat (which % (r01.length : Int))) default).err)) + 1) + wrong), I ((r01.getD (Int.toNat (which % (r01.length : Int))) default).err)] 34, cBlk b_10 [I r07, v90z] 25, cOwn (α := Line) 34 v90z ((r110.take (Int.toNat (which % (r01.length : Int))) ++ r110.drop (Int.toNat ((which % (r01.length : Int)) + 1))) ++ ([(⟨((r01.getD (Int.toNat (which % (r01.length : Int))) default).src : Int), ((r01.getD (Int.toNat (which % (r01.length : Int))) default).dst : Int), ((r01.getD (Int.toNat (which % (r01.length : Int))) default).day : Int), (((r013 + ((r01.getD (Int.toNat (which % (r01.length : Int))) default).err)) + 1) + wrong : Int), ((r01.getD (Int.toNat (which % (r01.length : Int))) default).err : Int)⟩ : Line)])), cBlk b_6 [I r003, I r013] 37, cOwn (α := Leg) 91 u0_5 r02, cBlk b_4 [I r00, u0_2] 25, cOwn (α := Line) 34 u0_2 r01, cOwn (α := Int) 3 u1_3 r12, cBlk nb0_1 [v_numbers, I q1, I q2] 109] R := H.back H2_ rfl
    clear H2_
    refine s_val (x_mv (v := .tuple #[B r08, I r112]) rfl) ?_
    refine s_val (x_ext (vs := [B r08, I r112]) (v := B r08) rfl rfl) ?_
    refine s_val (x_ext (vs := [B r08, I r112]) (v := I r112) rfl rfl) ?_
    refine s_val (x_as (v := B r08) rfl) ?_
    refine s_val (x_as (v := I r112) rfl) ?_
    refine s_nil ?_
    refine W.seq ?_
    refine W.region rfl ?_
    refine s_val (x_ld (p := .pointer (some ⟨b_10, 0, none⟩)) (v := .agg #[I r07, v90z]) rfl (ldb_ag (ds := [I r07, v90z]) Ag25 Sz25 (H.blk (k := 2) rfl) rfl rfl)) ?_
    obtain ⟨r98z, hx97z, hM⟩ := M.e_bind hM
    refine s_call cf50 [.agg #[I r07, v90z]] rfl (level_Loop_ok r07 ((r110.take (Int.toNat (which % (r01.length : Int))) ++ r110.drop (Int.toNat ((which % (r01.length : Int)) + 1))) ++ ([(⟨((r01.getD (Int.toNat (which % (r01.length : Int))) default).src : Int), ((r01.getD (Int.toNat (which % (r01.length : Int))) default).dst : Int), ((r01.getD (Int.toNat (which % (r01.length : Int))) default).day : Int), (((r013 + ((r01.getD (Int.toNat (which % (r01.length : Int))) default).err)) + 1) + wrong : Int), ((r01.getD (Int.toNat (which % (r01.length : Int))) default).err : Int)⟩ : Line)])) (Reads.of (k := 3) rfl ownLe) (ownSl (H.get (k := 3) rfl)) hx97z _ (St.give (T := [cOwn (α := Line) 34 v87z ([(⟨((r01.getD (Int.toNat (which % (r01.length : Int))) default).src : Int), ((r01.getD (Int.toNat (which % (r01.length : Int))) default).dst : Int), ((r01.getD (Int.toNat (which % (r01.length : Int))) default).day : Int), (((r013 + ((r01.getD (Int.toNat (which % (r01.length : Int))) default).err)) + 1) + wrong : Int), ((r01.getD (Int.toNat (which % (r01.length : Int))) default).err : Int)⟩ : Line)]), cBlk b_11 [I ((r01.getD (Int.toNat (which % (r01.length : Int))) default).src), I ((r01.getD (Int.toNat (which % (r01.length : Int))) default).dst), I ((r01.getD (Int.toNat (which % (r01.length : Int))) default).day), I (((r013 + ((r01.getD (Int.toNat (which % (r01.length : Int))) default).err)) + 1) + wrong), I ((r01.getD (Int.toNat (which % (r01.length : Int))) default).err)] 34, cBlk b_10 [I r07, v90z] 25, cOwn (α := Line) 34 v90z ((r110.take (Int.toNat (which % (r01.length : Int))) ++ r110.drop (Int.toNat ((which % (r01.length : Int)) + 1))) ++ ([(⟨((r01.getD (Int.toNat (which % (r01.length : Int))) default).src : Int), ((r01.getD (Int.toNat (which % (r01.length : Int))) default).dst : Int), ((r01.getD (Int.toNat (which % (r01.length : Int))) default).day : Int), (((r013 + ((r01.getD (Int.toNat (which % (r01.length : Int))) default).err)) + 1) + wrong : Int), ((r01.getD (Int.toNat (which % (r01.length : Int))) default).err : Int)⟩ : Line)])), cBlk b_6 [I r003, I r013] 37, cOwn (α := Leg) 91 u0_5 r02, cBlk b_4 [I r00, u0_2] 25, cOwn (α := Line) 34 u0_2 r01, cOwn (α := Int) 3 u1_3 r12, cBlk nb0_1 [v_numbers, I q1, I q2] 109]) H rfl)) ?_
    rintro vq w99z ⟨r09, r113, u0_13, hr100z, hvq, H2_⟩
    subst hr100z
    subst vq
    try dsimp only at hM
    replace H : St w w99z [cOwn (α := Leg) 91 u0_13 r09, cOwn (α := Line) 34 v87z ([(⟨((r01.getD (Int.toNat (which % (r01.length : Int))) default).src : Int), ((r01.getD (Int.toNat (which % (r01.length : Int))) default).dst : Int), ((r01.getD (Int.toNat (which % (r01.length : Int))) default).day : Int), (((r013 + ((r01.getD (Int.toNat (which % (r01.length : Int))) default).err)) + 1) + wrong : Int), ((r01.getD (Int.toNat (which % (r01.length : Int))) default).err : Int)⟩ : Line)]), cBlk b_11 [I ((r01.getD (Int.toNat (which % (r01.length : Int))) default).src), I ((r01.getD (Int.toNat (which % (r01.length : Int))) default).dst), I ((r01.getD (Int.toNat (which % (r01.length : Int))) default).day), I (((r013 + ((r01.getD (Int.toNat (which % (r01.length : Int))) default).err)) + 1) + wrong), I ((r01.getD (Int.toNat (which % (r01.length : Int))) default).err)] 34, cBlk b_10 [I r07, v90z] 25, cOwn (α := Line) 34 v90z ((r110.take (Int.toNat (which % (r01.length : Int))) ++ r110.drop (Int.toNat ((which % (r01.length : Int)) + 1))) ++ ([(⟨((r01.getD (Int.toNat (which % (r01.length : Int))) default).src : Int), ((r01.getD (Int.toNat (which % (r01.length : Int))) default).dst : Int), ((r01.getD (Int.toNat (which % (r01.length : Int))) default).day : Int), (((r013 + ((r01.getD (Int.toNat (which % (r01.length : Int))) default).err)) + 1) + wrong : Int), ((r01.getD (Int.toNat (which % (r01.length : Int))) default).err : Int)⟩ : Line)])), cBlk b_6 [I r003, I r013] 37, cOwn (α := Leg) 91 u0_5 r02, cBlk b_4 [I r00, u0_2] 25, cOwn (α := Line) 34 u0_2 r01, cOwn (α := Int) 3 u1_3 r12, cBlk nb0_1 [v_numbers, I q1, I q2] 109] R := H.back H2_ rfl
    clear H2_
    refine s_val (x_mv (v := .tuple #[u0_13, I r113]) rfl) ?_
    refine s_val (x_ext (vs := [u0_13, I r113]) (v := u0_13) rfl rfl) ?_
    refine s_val (x_ext (vs := [u0_13, I r113]) (v := I r113) rfl rfl) ?_
    refine s_val (x_as (v := u0_13) rfl) ?_
    refine s_val (x_as (v := I r113) rfl) ?_
    refine s_nil ?_
    refine W.seq ?_
    refine W.region rfl ?_
    refine s_val (x_ld (p := .pointer (some ⟨b_10, 0, none⟩)) (v := .agg #[I r07, v90z]) rfl (ldb_ag (ds := [I r07, v90z]) Ag25 Sz25 (H.blk (k := 3) rfl) rfl rfl)) ?_
    refine s_val (x_mv (v := u0_13) rfl) ?_
    obtain ⟨r102z, hx101z, hM⟩ := M.e_bind hM
    refine s_call cf45 [.agg #[I r07, v90z], u0_13] rfl (level_Rises_ok r07 ((r110.take (Int.toNat (which % (r01.length : Int))) ++ r110.drop (Int.toNat ((which % (r01.length : Int)) + 1))) ++ ([(⟨((r01.getD (Int.toNat (which % (r01.length : Int))) default).src : Int), ((r01.getD (Int.toNat (which % (r01.length : Int))) default).dst : Int), ((r01.getD (Int.toNat (which % (r01.length : Int))) default).day : Int), (((r013 + ((r01.getD (Int.toNat (which % (r01.length : Int))) default).err)) + 1) + wrong : Int), ((r01.getD (Int.toNat (which % (r01.length : Int))) default).err : Int)⟩ : Line)])) r09 (Reads.of (k := 4) rfl ownLe) (ownSl (H.get (k := 4) rfl)) (Reads.of (k := 0) rfl ownLe) (ownSl (H.get (k := 0) rfl)) hx101z _ (St.give (T := [cOwn (α := Leg) 91 u0_13 r09, cOwn (α := Line) 34 v87z ([(⟨((r01.getD (Int.toNat (which % (r01.length : Int))) default).src : Int), ((r01.getD (Int.toNat (which % (r01.length : Int))) default).dst : Int), ((r01.getD (Int.toNat (which % (r01.length : Int))) default).day : Int), (((r013 + ((r01.getD (Int.toNat (which % (r01.length : Int))) default).err)) + 1) + wrong : Int), ((r01.getD (Int.toNat (which % (r01.length : Int))) default).err : Int)⟩ : Line)]), cBlk b_11 [I ((r01.getD (Int.toNat (which % (r01.length : Int))) default).src), I ((r01.getD (Int.toNat (which % (r01.length : Int))) default).dst), I ((r01.getD (Int.toNat (which % (r01.length : Int))) default).day), I (((r013 + ((r01.getD (Int.toNat (which % (r01.length : Int))) default).err)) + 1) + wrong), I ((r01.getD (Int.toNat (which % (r01.length : Int))) default).err)] 34, cBlk b_10 [I r07, v90z] 25, cOwn (α := Line) 34 v90z ((r110.take (Int.toNat (which % (r01.length : Int))) ++ r110.drop (Int.toNat ((which % (r01.length : Int)) + 1))) ++ ([(⟨((r01.getD (Int.toNat (which % (r01.length : Int))) default).src : Int), ((r01.getD (Int.toNat (which % (r01.length : Int))) default).dst : Int), ((r01.getD (Int.toNat (which % (r01.length : Int))) default).day : Int), (((r013 + ((r01.getD (Int.toNat (which % (r01.length : Int))) default).err)) + 1) + wrong : Int), ((r01.getD (Int.toNat (which % (r01.length : Int))) default).err : Int)⟩ : Line)])), cBlk b_6 [I r003, I r013] 37, cOwn (α := Leg) 91 u0_5 r02, cBlk b_4 [I r00, u0_2] 25, cOwn (α := Line) 34 u0_2 r01, cOwn (α := Int) 3 u1_3 r12, cBlk nb0_1 [v_numbers, I q1, I q2] 109]) H rfl)) ?_
    rintro vq w103z ⟨r010, r114, r24, r33, hr104z, hvq, H2_⟩
    subst hr104z
    subst vq
    try dsimp only at hM
    replace H : St w w103z [cOwn (α := Leg) 91 u0_13 r09, cOwn (α := Line) 34 v87z ([(⟨((r01.getD (Int.toNat (which % (r01.length : Int))) default).src : Int), ((r01.getD (Int.toNat (which % (r01.length : Int))) default).dst : Int), ((r01.getD (Int.toNat (which % (r01.length : Int))) default).day : Int), (((r013 + ((r01.getD (Int.toNat (which % (r01.length : Int))) default).err)) + 1) + wrong : Int), ((r01.getD (Int.toNat (which % (r01.length : Int))) default).err : Int)⟩ : Line)]), cBlk b_11 [I ((r01.getD (Int.toNat (which % (r01.length : Int))) default).src), I ((r01.getD (Int.toNat (which % (r01.length : Int))) default).dst), I ((r01.getD (Int.toNat (which % (r01.length : Int))) default).day), I (((r013 + ((r01.getD (Int.toNat (which % (r01.length : Int))) default).err)) + 1) + wrong), I ((r01.getD (Int.toNat (which % (r01.length : Int))) default).err)] 34, cBlk b_10 [I r07, v90z] 25, cOwn (α := Line) 34 v90z ((r110.take (Int.toNat (which % (r01.length : Int))) ++ r110.drop (Int.toNat ((which % (r01.length : Int)) + 1))) ++ ([(⟨((r01.getD (Int.toNat (which % (r01.length : Int))) default).src : Int), ((r01.getD (Int.toNat (which % (r01.length : Int))) default).dst : Int), ((r01.getD (Int.toNat (which % (r01.length : Int))) default).day : Int), (((r013 + ((r01.getD (Int.toNat (which % (r01.length : Int))) default).err)) + 1) + wrong : Int), ((r01.getD (Int.toNat (which % (r01.length : Int))) default).err : Int)⟩ : Line)])), cBlk b_6 [I r003, I r013] 37, cOwn (α := Leg) 91 u0_5 r02, cBlk b_4 [I r00, u0_2] 25, cOwn (α := Line) 34 u0_2 r01, cOwn (α := Int) 3 u1_3 r12, cBlk nb0_1 [v_numbers, I q1, I q2] 109] R := H.back H2_ rfl
    clear H2_
    refine s_val (x_mv (v := .tuple #[I r010, I r114, I r24, I r33]) rfl) ?_
    refine s_val (x_ext (vs := [I r010, I r114, I r24, I r33]) (v := I r010) rfl rfl) ?_
    refine s_val (x_ext (vs := [I r010, I r114, I r24, I r33]) (v := I r114) rfl rfl) ?_
    refine s_val (x_ext (vs := [I r010, I r114, I r24, I r33]) (v := I r24) rfl rfl) ?_
    refine s_val (x_ext (vs := [I r010, I r114, I r24, I r33]) (v := I r33) rfl rfl) ?_
    refine s_val (x_as (v := I r010) rfl) ?_
    refine s_val (x_as (v := I r114) rfl) ?_
    refine s_val (x_as (v := I r24) rfl) ?_
    refine s_val (x_as (v := I r33) rfl) ?_
    refine s_nil ?_
    refine W.seq ?_
    refine W.seq ?_
    refine W.region rfl ?_
    refine s_val (x_mv (v := I r112) rfl) ?_
    refine s_val (x_cmp (kd := .i64) (a := r112) (b := 0) (r := r112 != 0) rfl rfl rfl) ?_
    refine s_val (x_mv (v := B (r112 != 0)) rfl) ?_
    refine g_val (!(r112 != 0)) (gy_f rfl) (fun hg => x_mv (v := B r08) rfl) ?_
    refine s_val (x_por (b := r112 != 0) (r := r08) rfl rfl (fun hb => gd_of (c := !(r112 != 0)) (by first | exact hb | (rw [hb]; rfl) | simp_all) (B r08))) ?_
    refine s_val (x_mv (v := B ((r112 != 0) || r08)) rfl) ?_
    refine g_val (!((r112 != 0) || r08)) (gy_f rfl) (fun hg => x_mv (v := I r113) rfl) ?_
    refine g_val (!((r112 != 0) || r08)) (gy_f rfl) (fun hg => x_cmp (kd := .i64) (a := r113) (b := 0) (r := r113 != 0) (gd_of (c := !((r112 != 0) || r08)) hg (I r113)) rfl rfl) ?_
    refine s_val (x_por (b := ((r112 != 0) || r08)) (r := r113 != 0) rfl rfl (fun hb => gd_of (c := !((r112 != 0) || r08)) (by first | exact hb | (rw [hb]; rfl) | simp_all) (B (r113 != 0)))) ?_
    refine s_val (x_mv (v := B (((r112 != 0) || r08) || (r113 != 0))) rfl) ?_
    refine g_val (!(((r112 != 0) || r08) || (r113 != 0))) (gy_f rfl) (fun hg => x_mv (v := I r33) rfl) ?_
    refine g_val (!(((r112 != 0) || r08) || (r113 != 0))) (gy_f rfl) (fun hg => x_cmp (kd := .i64) (a := r33) (b := 0) (r := r33 != 0) (gd_of (c := !(((r112 != 0) || r08) || (r113 != 0))) hg (I r33)) rfl rfl) ?_
    refine s_val (x_por (b := (((r112 != 0) || r08) || (r113 != 0))) (r := r33 != 0) rfl rfl (fun hb => gd_of (c := !(((r112 != 0) || r08) || (r113 != 0))) (by first | exact hb | (rw [hb]; rfl) | simp_all) (B (r33 != 0)))) ?_
    refine s_val (x_mv (v := B ((((r112 != 0) || r08) || (r113 != 0)) || (r33 != 0))) rfl) ?_
    refine g_val (!((((r112 != 0) || r08) || (r113 != 0)) || (r33 != 0))) (gy_f rfl) (fun hg => x_mv (v := I r010) rfl) ?_
    refine g_val (!((((r112 != 0) || r08) || (r113 != 0)) || (r33 != 0))) (gy_f rfl) (fun hg => x_mv (v := I r114) rfl) ?_
    refine g_val (!((((r112 != 0) || r08) || (r113 != 0)) || (r33 != 0))) (gy_f rfl) (fun hg => x_cmp (kd := .i64) (a := r010) (b := r114) (r := r010 != r114) (gd_of (c := !((((r112 != 0) || r08) || (r113 != 0)) || (r33 != 0))) hg (I r010)) (gd_of (c := !((((r112 != 0) || r08) || (r113 != 0)) || (r33 != 0))) hg (I r114)) rfl) ?_
    refine s_val (x_por (b := ((((r112 != 0) || r08) || (r113 != 0)) || (r33 != 0))) (r := r010 != r114) rfl rfl (fun hb => gd_of (c := !((((r112 != 0) || r08) || (r113 != 0)) || (r33 != 0))) (by first | exact hb | (rw [hb]; rfl) | simp_all) (B (r010 != r114)))) ?_
    refine s_val (x_mv (v := B (((((r112 != 0) || r08) || (r113 != 0)) || (r33 != 0)) || (r010 != r114))) rfl) ?_
    refine g_val (!(((((r112 != 0) || r08) || (r113 != 0)) || (r33 != 0)) || (r010 != r114))) (gy_f rfl) (fun hg => x_mv (v := I r24) rfl) ?_
    refine g_val (!(((((r112 != 0) || r08) || (r113 != 0)) || (r33 != 0)) || (r010 != r114))) (gy_f rfl) (fun hg => x_cmp (kd := .i64) (a := r24) (b := 0) (r := decide (0 <= r24)) (gd_of (c := !(((((r112 != 0) || r08) || (r113 != 0)) || (r33 != 0)) || (r010 != r114))) hg (I r24)) rfl rfl) ?_
    refine s_val (x_por (b := (((((r112 != 0) || r08) || (r113 != 0)) || (r33 != 0)) || (r010 != r114))) (r := decide (0 <= r24)) rfl rfl (fun hb => gd_of (c := !(((((r112 != 0) || r08) || (r113 != 0)) || (r33 != 0)) || (r010 != r114))) (by first | exact hb | (rw [hb]; rfl) | simp_all) (B (decide (0 <= r24))))) ?_
    refine s_nil ?_
    refine W.cond ((((((r112 != 0) || r08) || (r113 != 0)) || (r33 != 0)) || (r010 != r114)) || (decide (0 <= r24))) rfl (fun c105z => ?_) (fun c105z => ?_)
    ·replace hM := M.e_t hM c105z
     refine W.seq ?_
     refine W.region rfl ?_
     refine s_val (x_as (v := B false) rfl) ?_
     refine s_nil ?_
     refine W.ret ?_
     have hr_ := M.e_pure hM
     exact ⟨_, resE_tmp rfl, ⟨false, hr_, rfl, (H.pick [] (by decide) rfl)⟩⟩
    ·replace hM := M.e_f hM c105z
     refine W.skip ?_
     refine W.seq ?_
     refine W.region rfl ?_
     refine s_val (x_mv (v := u0_13) rfl) ?_
     refine s_val (x_mf (fs := []) (cs := [.pointer (some ⟨b_10, 0, none⟩)]) rfl rfl) ?_
     obtain ⟨r107z, hx106z, hM⟩ := M.e_bind hM
     refine s_call cf53 [u0_13, .func (.func 54) #[] #[.pointer (some ⟨b_10, 0, none⟩)]] rfl (slices_ContainsFunc_level_Leg_ok r09 (fun xqz => m_nilometerlaw01_LevelCloses_1 xqz r07 ((r110.take (Int.toNat (which % (r01.length : Int))) ++ r110.drop (Int.toNat ((which % (r01.length : Int)) + 1))) ++ ([(⟨((r01.getD (Int.toNat (which % (r01.length : Int))) default).src : Int), ((r01.getD (Int.toNat (which % (r01.length : Int))) default).dst : Int), ((r01.getD (Int.toNat (which % (r01.length : Int))) default).day : Int), (((r013 + ((r01.getD (Int.toNat (which % (r01.length : Int))) default).err)) + 1) + wrong : Int), ((r01.getD (Int.toNat (which % (r01.length : Int))) default).err : Int)⟩ : Line)]))) (Reads.of (k := 0) rfl ownLe) (ownSl (H.get (k := 0) rfl)) ⟨54, [.pointer (some ⟨b_10, 0, none⟩)], rfl, cf54, fun wqz Lqz Cqz vqz xqz bqz hsqz hCqz hAqz hpqz => by obtain rfl := Leg_arg hAqz; exact (nilometerlaw01_LevelCloses_1_ok xqz r07 ((r110.take (Int.toNat (which % (r01.length : Int))) ++ r110.drop (Int.toNat ((which % (r01.length : Int)) + 1))) ++ ([(⟨((r01.getD (Int.toNat (which % (r01.length : Int))) default).src : Int), ((r01.getD (Int.toNat (which % (r01.length : Int))) default).dst : Int), ((r01.getD (Int.toNat (which % (r01.length : Int))) default).day : Int), (((r013 + ((r01.getD (Int.toNat (which % (r01.length : Int))) default).err)) + 1) + wrong : Int), ((r01.getD (Int.toNat (which % (r01.length : Int))) default).err : Int)⟩ : Line)])) (Reads.app (Reads.of (k := 4) rfl ownLe) _) (ownSl (H.get (k := 4) rfl)) (Has.app (Has.here (k := 3) rfl) _) hpqz wqz (St.refl hsqz)).mono fun vqz wqz ⟨yqz, hrqz, hvqz, Hqz⟩ => by subst hrqz; exact ⟨hvqz, Hqz⟩⟩ hx106z _ (St.give (T := [cOwn (α := Leg) 91 u0_13 r09, cOwn (α := Line) 34 v87z ([(⟨((r01.getD (Int.toNat (which % (r01.length : Int))) default).src : Int), ((r01.getD (Int.toNat (which % (r01.length : Int))) default).dst : Int), ((r01.getD (Int.toNat (which % (r01.length : Int))) default).day : Int), (((r013 + ((r01.getD (Int.toNat (which % (r01.length : Int))) default).err)) + 1) + wrong : Int), ((r01.getD (Int.toNat (which % (r01.length : Int))) default).err : Int)⟩ : Line)]), cBlk b_11 [I ((r01.getD (Int.toNat (which % (r01.length : Int))) default).src), I ((r01.getD (Int.toNat (which % (r01.length : Int))) default).dst), I ((r01.getD (Int.toNat (which % (r01.length : Int))) default).day), I (((r013 + ((r01.getD (Int.toNat (which % (r01.length : Int))) default).err)) + 1) + wrong), I ((r01.getD (Int.toNat (which % (r01.length : Int))) default).err)] 34, cBlk b_10 [I r07, v90z] 25, cOwn (α := Line) 34 v90z ((r110.take (Int.toNat (which % (r01.length : Int))) ++ r110.drop (Int.toNat ((which % (r01.length : Int)) + 1))) ++ ([(⟨((r01.getD (Int.toNat (which % (r01.length : Int))) default).src : Int), ((r01.getD (Int.toNat (which % (r01.length : Int))) default).dst : Int), ((r01.getD (Int.toNat (which % (r01.length : Int))) default).day : Int), (((r013 + ((r01.getD (Int.toNat (which % (r01.length : Int))) default).err)) + 1) + wrong : Int), ((r01.getD (Int.toNat (which % (r01.length : Int))) default).err : Int)⟩ : Line)])), cBlk b_6 [I r003, I r013] 37, cOwn (α := Leg) 91 u0_5 r02, cBlk b_4 [I r00, u0_2] 25, cOwn (α := Line) 34 u0_2 r01, cOwn (α := Int) 3 u1_3 r12, cBlk nb0_1 [v_numbers, I q1, I q2] 109]) H rfl)) ?_
     rintro vq w108z ⟨r5, hr109z, hvq, H2_⟩
     subst hr109z
     subst vq
     try dsimp only at hM
     replace H : St w w108z [cOwn (α := Leg) 91 u0_13 r09, cOwn (α := Line) 34 v87z ([(⟨((r01.getD (Int.toNat (which % (r01.length : Int))) default).src : Int), ((r01.getD (Int.toNat (which % (r01.length : Int))) default).dst : Int), ((r01.getD (Int.toNat (which % (r01.length : Int))) default).day : Int), (((r013 + ((r01.getD (Int.toNat (which % (r01.length : Int))) default).err)) + 1) + wrong : Int), ((r01.getD (Int.toNat (which % (r01.length : Int))) default).err : Int)⟩ : Line)]), cBlk b_11 [I ((r01.getD (Int.toNat (which % (r01.length : Int))) default).src), I ((r01.getD (Int.toNat (which % (r01.length : Int))) default).dst), I ((r01.getD (Int.toNat (which % (r01.length : Int))) default).day), I (((r013 + ((r01.getD (Int.toNat (which % (r01.length : Int))) default).err)) + 1) + wrong), I ((r01.getD (Int.toNat (which % (r01.length : Int))) default).err)] 34, cBlk b_10 [I r07, v90z] 25, cOwn (α := Line) 34 v90z ((r110.take (Int.toNat (which % (r01.length : Int))) ++ r110.drop (Int.toNat ((which % (r01.length : Int)) + 1))) ++ ([(⟨((r01.getD (Int.toNat (which % (r01.length : Int))) default).src : Int), ((r01.getD (Int.toNat (which % (r01.length : Int))) default).dst : Int), ((r01.getD (Int.toNat (which % (r01.length : Int))) default).day : Int), (((r013 + ((r01.getD (Int.toNat (which % (r01.length : Int))) default).err)) + 1) + wrong : Int), ((r01.getD (Int.toNat (which % (r01.length : Int))) default).err : Int)⟩ : Line)])), cBlk b_6 [I r003, I r013] 37, cOwn (α := Leg) 91 u0_5 r02, cBlk b_4 [I r00, u0_2] 25, cOwn (α := Line) 34 u0_2 r01, cOwn (α := Int) 3 u1_3 r12, cBlk nb0_1 [v_numbers, I q1, I q2] 109] R := H.back H2_ rfl
     clear H2_
     refine s_val (x_mv (v := B r5) rfl) ?_
     obtain ⟨r6, hx110z, hM⟩ := M.e_bind hM
     refine t_gcall r5 (gy_t rfl) cf18 (B r6) (fun _ => []) (fun _ => rfl) H (fun hg => (nilometerlaw01_awake_ok (M.e_opt hx110z hg) _ (H.give (A := []) rfl)).mono fun v_ w_ ⟨y_, hr_, hv_, H_⟩ => by subst hr_; exact ⟨hv_, H.via H_⟩) ?_
     intro w111z H
     refine s_val (x_pand (b := r5) (r := r6) rfl (fun hb => gd_of (c := r5) (by first | exact hb | (rw [hb]; rfl) | simp_all) (B r6)) rfl) ?_
     refine s_val (x_as (v := B (r5 && r6)) rfl) ?_
     refine s_nil ?_
     refine W.ret ?_
     have hr_ := M.e_pure hM
     exact ⟨_, resE_tmp rfl, ⟨(r5 && r6), hr_, rfl, (H.pick [] (by decide) rfl)⟩⟩

end Go.Proofs.Ytclhljenjphofaa
namespace Go.Nm
namespace M
variable {α β σ ρ : Type}
def Out (m : M α) (Q : α -> Prop) : Prop := ∃ r, m.Ends r /\ Q r
theorem o_of {m : M α} {a : α} {Q : α -> Prop} (h : m.Ends a) (q : Q a) : m.Out Q := ⟨a, h, q⟩
theorem o_pure {a : α} {Q : α -> Prop} (h : Q a) : (pure a).Out Q := ⟨a, i_pure, h⟩
theorem o_mono {m : M α} {P Q : α -> Prop} (h : m.Out P) (k : ∀ a, P a -> Q a) : m.Out Q := by
  obtain ⟨a, h1, h2⟩ := h
  exact ⟨a, h1, k a h2⟩
theorem o_bind {m : M α} {k : α -> M β} {P : α -> Prop} {Q : β -> Prop} (h : m.Out P) (h' : ∀ a, P a -> (k a).Out Q) : (bind m k).Out Q := by
  obtain ⟨a, h1, h2⟩ := h
  obtain ⟨b, h3, h4⟩ := h' a h2
  exact ⟨b, i_bind h1 h3, h4⟩
theorem o_bindE {m : M α} {k : α -> M β} {a : α} {Q : β -> Prop} (h : m.Ends a) (h' : (k a).Out Q) : (bind m k).Out Q := o_bind (o_of (Q := fun x => x = a) h rfl) (fun _ e => by subst e; exact h')
theorem o_grd {b : Bool} {k : M α} {Q : α -> Prop} (hb : b = true) (h : k.Out Q) : (grd b k).Out Q := by subst hb; exact h
theorem o_grdD {p : Prop} [Decidable p] {k : M α} {Q : α -> Prop} (hp : p) (h : k.Out Q) : (grd (decide p) k).Out Q := o_grd (decide_eq_true hp) h
theorem o_if {b : Bool} {x y : M α} {Q : α -> Prop} (h : b = true -> x.Out Q) (h' : b = false -> y.Out Q) : (bif b then x else y).Out Q := by
  cases b with
  | true => exact h rfl
  | false => exact h' rfl
theorem o_t {b : Bool} {x y : M α} {Q : α -> Prop} (hb : b = true) (h : x.Out Q) : (bif b then x else y).Out Q := by subst hb; exact h
theorem o_f {b : Bool} {x y : M α} {Q : α -> Prop} (hb : b = false) (h : y.Out Q) : (bif b then x else y).Out Q := by subst hb; exact h
/-- What a round leaves. -/
def Rd (J : Nat -> σ -> Prop) (Q : ρ -> Prop) (m : Nat) : σ ⊕ ρ -> Prop
  | .inl s => ∃ m', m' < m /\ J m' s
  | .inr r => Q r
theorem o_iter {body : σ -> M (σ ⊕ ρ)} {Q : ρ -> Prop} (J : Nat -> σ -> Prop) (round : ∀ m s, J m s -> (body s).Out (Rd J Q m)) : ∀ (m : Nat) (s : σ), J m s -> (iter body s).Out Q := by
  intro m
  induction m using Nat.strongRecOn with
  | _ m ih =>
    intro s hs
    obtain ⟨x, h1, h2⟩ := round m s hs
    cases x with
    | inl s' =>
      obtain ⟨m', hlt, hj⟩ := h2
      obtain ⟨r, h3, h4⟩ := ih m' hlt s' hj
      exact ⟨r, i_next h1 h3, h4⟩
    | inr r => exact ⟨r, i_stop h1, h2⟩
/-- A loop that counts from 0 to n. -/
theorem o_for {body : σ -> M (σ ⊕ ρ)} {Q : ρ -> Prop} (n : Nat) (J : Nat -> σ -> Prop) (round : ∀ i s, i < n -> J i s -> (body s).Out (fun x => match x with | .inl s' => J (i + 1) s' | .inr r => Q r))
    (last : ∀ s, J n s -> (body s).Out (fun x => match x with | .inl _ => False | .inr r => Q r)) {s : σ} (h : J 0 s) : (iter body s).Out Q := by
  refine o_iter (fun m s => ∃ i, i <= n /\ m = n - i /\ J i s) ?_ n s ⟨0, Nat.zero_le _, rfl, h⟩
  rintro m s ⟨i, hi, rfl, hj⟩
  by_cases e : i < n
  · refine o_mono (round i s e hj) ?_
    intro x hx
    cases x with
    | inl s' => exact ⟨n - (i + 1), by omega, i + 1, e, rfl, hx⟩
    | inr r => exact hx
  · obtain rfl : i = n := by omega
    refine o_mono (last s hj) ?_
    intro x hx
    cases x with
    | inl s' => exact hx.elim
    | inr r => exact hx
end M
theorem M.i_f {α : Type} {b : Bool} {x y : M α} {r : α} (hb : b = false) (h : y.Ends r) : (bif b then x else y).Ends r := by subst hb; exact h
theorem M.i_t {α : Type} {b : Bool} {x y : M α} {r : α} (hb : b = true) (h : x.Ends r) : (bif b then x else y).Ends r := by subst hb; exact h
theorem take_succ_D {α : Type} (l : List α) (i : Nat) (h : i < l.length) (d : α) : l.take i ++ [l.getD i d] = l.take (i + 1) := by
  rw [List.take_succ_eq_append_getElem h]
  simp [List.getD, h]
theorem gset {α : Type} (l : List α) (i j : Nat) (x d : α) (h : i < l.length) : (l.set i x).getD j d = if j = i then x else l.getD j d := by
  simp only [List.getD_eq_getElem?_getD, List.getElem?_set]
  by_cases e : i = j
  · subst e; simp [h]
  · rw [if_neg e, if_neg (fun h => e h.symm)]
theorem getD_el {α : Type} (l : List α) {k : Nat} (h : k < l.length) (d : α) : l.getD k d = l[k] := by rw [List.getD_eq_getElem?_getD, List.getElem?_eq_getElem h, Option.getD_some]
theorem gOr2 {c : Bool} {p q : Prop} [Decidable p] [Decidable q] (hp : p) (hq : q) : (!c || (decide p && decide q)) = true := by rw [decide_eq_true hp, decide_eq_true hq]; cases c <;> rfl
theorem gA2 {p q : Prop} [Decidable p] [Decidable q] (hp : p) (hq : q) : (decide p && decide q) = true := by rw [decide_eq_true hp, decide_eq_true hq]; rfl
theorem gA3 {p q r : Prop} [Decidable p] [Decidable q] [Decidable r] (hp : p) (hq : q) (hr : r) : (decide p && decide q && decide r) = true := by rw [decide_eq_true hp, decide_eq_true hq, decide_eq_true hr]; rfl
theorem nodup_bound : ∀ (n : Nat) (l : List Int), l.Nodup -> (∀ x ∈ l, 0 <= x /\ x < n) -> l.length <= n
  | 0, l, _, hb => by
    cases l with
    | nil => exact Nat.le_refl _
    | cons x l => have := hb x (by simp); omega
  | n + 1, l, hn, hb => by
    by_cases hm : (n : Int) ∈ l
    · have h1 : (l.erase (n : Int)).length = l.length - 1 := List.length_erase_of_mem hm
      have h2 := nodup_bound n (l.erase (n : Int)) (hn.erase _) (fun x hx => by
        have hx' := (List.Nodup.mem_erase_iff hn).1 hx
        have := hb x hx'.2
        have := hx'.1
        omega)
      have := List.length_pos_of_mem hm
      omega
    · have := nodup_bound n l hn (fun x hx => by
        have := hb x hx
        have : x ≠ n := fun e => hm (e ▸ hx)
        omega)
      omega
theorem mem_getD {α : Type} {l : List α} {x : α} (h : x ∈ l) (d : α) : ∃ i, i < l.length /\ l.getD i d = x := by
  obtain ⟨i, hi, e⟩ := List.getElem_of_mem h
  exact ⟨i, hi, by rw [getD_el l hi d]; exact e⟩
end Go.Nm
namespace Go.Nm
structure SOk (c u x : Int) : Prop where
  u0 : 0 <= u
  u1 : u <= c
  x0 : 0 <= x
  x1 : x < 251
theorem SOk.mono {c d u x : Int} (h : SOk c u x) (hd : c <= d) : SOk d u x := ⟨h.u0, Int.le_trans h.u1 hd, h.x0, h.x1⟩
/-- What a stream gives: a number below n. -/
structure Nx (c n : Int) (y : Int × Int × Int) : Prop where
  ok : SOk c y.2.1 y.2.2
  lt : 1 <= n -> 0 <= y.1 /\ y.1 < n
  no : n < 1 -> y.1 = 0
end Go.Nm
namespace Go.Proofs.Ytclhljenjphofaa
open Go Go.Nm
theorem next_out {b : List UInt8} {c u x n : Int} (h : SOk c u x) (hc : c <= 1000000000000) (hn : n <= 1000000) : (m_nilometerkit_Stream_Next b u x n).Out (Nx (c + 1) n) := by
  obtain ⟨u0, u1, x0, x1⟩ := h
  unfold m_nilometerkit_Stream_Next
  refine M.o_if (fun hb => ?_) (fun hb => ?_)
  · simp only [Bool.or_eq_true, decide_eq_true_eq, beq_iff_eq] at hb
    refine M.o_pure ⟨⟨u0, by dsimp only; omega, x0, x1⟩, fun h1 => ⟨Int.le_refl _, ?_⟩, fun _ => rfl⟩
    dsimp only
    omega
  · simp only [Bool.or_eq_false_iff, decide_eq_false_iff_not, beq_eq_false_iff_ne, ne_eq] at hb
    have hl : (0 : Int) < (b.length : Int) := by omega
    have m0 := Int.emod_nonneg u (show (b.length : Int) ≠ 0 by omega)
    have m1 := Int.emod_lt_of_pos u hl
    have d0 := Int.ediv_nonneg u0 (show (0 : Int) <= (b.length : Int) by omega)
    have d1 : u / (b.length : Int) <= u := Int.ediv_le_self _ u0
    have y1 : ((b.getD (Int.toNat (u % (b.length : Int))) 0).toNat : Int) < 256 := by
      have := UInt8.toNat_lt (b.getD (Int.toNat (u % (b.length : Int))) 0)
      omega
    have y0 : (0 : Int) <= ((b.getD (Int.toNat (u % (b.length : Int))) 0).toNat : Int) := Int.natCast_nonneg _
    generalize ((b.getD (Int.toNat (u % (b.length : Int))) 0).toNat : Int) = y at *
    generalize u % (b.length : Int) = m at *
    generalize u / (b.length : Int) = d at *
    have hn0 : 0 < n := by omega
    have fin : ∀ z : Int, 0 <= z -> 0 <= z % n /\ z % n < n := fun z hz => ⟨Int.emod_nonneg _ (by omega), Int.emod_lt_of_pos _ hn0⟩
    have pr : ∀ z w : Int, 0 <= z -> Nx (c + 1) n (z % n, u + 1, w % 251) := fun z w hz => ⟨⟨by dsimp only; omega, by dsimp only; omega, by dsimp only; omega, by dsimp only; omega⟩, fun _ => fin z hz, fun h => by omega⟩
    refine M.o_grd (by simp only [Bool.and_eq_true, decide_eq_true_eq]; omega) (M.o_grd (by simp only [Bool.and_eq_true, decide_eq_true_eq]; omega) (M.o_grd (by simp only [Bool.and_eq_true, decide_eq_true_eq]; omega) ?_))
    refine M.o_if (fun h1 => ?_) (fun h1 => ?_)
    · refine M.o_grd (by simp only [Bool.and_eq_true, decide_eq_true_eq]; omega) (M.o_grd (by simp only [Bool.and_eq_true, decide_eq_true_eq]; omega) (M.o_grd (by simp only [Bool.and_eq_true, decide_eq_true_eq]; omega) (M.o_grd (by simp only [Bool.and_eq_true, decide_eq_true_eq]; omega) (M.o_grd (by simp only [Bool.and_eq_true, decide_eq_true_eq]; omega) ?_))))
      refine M.o_grd (by simp only [Bool.and_eq_true, decide_eq_true_eq]; omega) (M.o_grd (by simp only [Bool.and_eq_true, decide_eq_true_eq]; omega) (M.o_grd (by simp only [Bool.and_eq_true, decide_eq_true_eq]; omega) (M.o_grd (by simp only [Bool.and_eq_true, decide_eq_true_eq]; omega) ?_)))
      refine M.o_if (fun h2 => ?_) (fun h2 => ?_)
      · refine M.o_grd (by simp only [Bool.and_eq_true, decide_eq_true_eq]; omega) (M.o_grd (by simp only [Bool.and_eq_true, decide_eq_true_eq]; omega) (M.o_grd (by simp only [Bool.and_eq_true, decide_eq_true_eq]; omega) (M.o_pure (pr _ _ (by omega)))))
      · refine M.o_grd (by simp only [Bool.and_eq_true, decide_eq_true_eq]; omega) (M.o_pure (pr _ _ (by omega)))
    · refine M.o_grd (by simp only [Bool.and_eq_true, decide_eq_true_eq]; omega) (M.o_grd (by simp only [Bool.and_eq_true, decide_eq_true_eq]; omega) (M.o_grd (by simp only [Bool.and_eq_true, decide_eq_true_eq]; omega) (M.o_grd (by simp only [Bool.and_eq_true, decide_eq_true_eq]; omega) (M.o_grd (by simp only [Bool.and_eq_true, decide_eq_true_eq]; omega) ?_))))
      refine M.o_if (fun h2 => ?_) (fun h2 => ?_)
      · refine M.o_grd (by simp only [Bool.and_eq_true, decide_eq_true_eq]; omega) (M.o_grd (by simp only [Bool.and_eq_true, decide_eq_true_eq]; omega) (M.o_grd (by simp only [Bool.and_eq_true, decide_eq_true_eq]; omega) (M.o_pure (pr _ _ (by omega)))))
      · refine M.o_grd (by simp only [Bool.and_eq_true, decide_eq_true_eq]; omega) (M.o_pure (pr _ _ (by omega)))
theorem within_out {b : List UInt8} {c u x lo hi : Int} (h : SOk c u x) (hc : c <= 1000000000000) (h0 : -1000 <= lo) (h1 : lo <= hi) (h2 : hi <= 10000) : (m_nilometerkit_Stream_Within b u x lo hi).Out (fun y => SOk (c + 1) y.2.1 y.2.2 /\ lo <= y.1 /\ y.1 <= hi) := by
  unfold m_nilometerkit_Stream_Within
  refine M.o_grd (gA2 (by omega) (by omega)) (M.o_grd (gA2 (by omega) (by omega)) (M.o_bind (next_out h hc (by omega)) ?_))
  rintro ⟨r, u', x'⟩ ⟨k, hl, _⟩
  have := hl (by omega)
  dsimp only at this k ⊢
  exact M.o_grd (gA2 (by omega) (by omega)) (M.o_pure ⟨k, by dsimp only; omega, by dsimp only; omega⟩)
end Go.Proofs.Ytclhljenjphofaa
namespace Go.Nm
/-- A leg leads from a mark to another one, and can rise so much. -/
def Ed (ls : List Line) (a b c : Int) : Prop := ∃ l, l ∈ ls /\ ((l.src = a /\ l.dst = b /\ c = l.err + l.rise) ∨ (l.dst = a /\ l.src = b /\ c = l.err - l.rise))
/-- Heights agree with all lines. -/
def Feas (ls : List Line) (h : Int -> Int) : Prop := ∀ l, l ∈ ls -> l.rise - l.err <= h l.dst - h l.src /\ h l.dst - h l.src <= l.rise + l.err
inductive Wk (ls : List Line) (a : Int) : List Int -> Int -> Prop
  | one : Wk ls a [a] 0
  | snoc {m b : Int} {vs : List Int} {c e : Int} (w : Wk ls a (m :: vs) c) (he : Ed ls m b e) : Wk ls a (b :: m :: vs) (c + e)
variable {ls : List Line} {h : Int -> Int} {a b c : Int}
theorem Feas.ed (hF : Feas ls h) (e : Ed ls a b c) : h b - h a <= c := by
  obtain ⟨l, hl, ⟨rfl, rfl, rfl⟩ | ⟨rfl, rfl, rfl⟩⟩ := e
  · have := hF l hl; omega
  · have := hF l hl; omega
theorem feas_of (hE : ∀ a b c, Ed ls a b c -> h b - h a <= c) : Feas ls h := fun l hl => by
  have h1 := hE l.src l.dst _ ⟨l, hl, .inl ⟨rfl, rfl, rfl⟩⟩
  have h2 := hE l.dst l.src _ ⟨l, hl, .inr ⟨rfl, rfl, rfl⟩⟩
  omega
theorem Ed.rev (e : Ed ls a b c) : ∃ c', Ed ls b a c' := by
  obtain ⟨l, hl, ⟨rfl, rfl, rfl⟩ | ⟨rfl, rfl, rfl⟩⟩ := e
  · exact ⟨_, l, hl, .inr ⟨rfl, rfl, rfl⟩⟩
  · exact ⟨_, l, hl, .inl ⟨rfl, rfl, rfl⟩⟩
theorem Ed.sub {ks : List Line} (e : Ed ls a b c) (hs : ∀ l, l ∈ ls -> l ∈ ks) : Ed ks a b c := by
  obtain ⟨l, hl, h⟩ := e
  exact ⟨l, hs l hl, h⟩
theorem Wk.sub {ks : List Line} {vs : List Int} (w : Wk ls a vs c) (hs : ∀ l, l ∈ ls -> l ∈ ks) : Wk ks a vs c := by
  induction w with
  | one => exact .one
  | snoc _ he ih => exact .snoc ih (he.sub hs)
theorem Wk.feas (hF : Feas ls h) {vs : List Int} (w : Wk ls a vs c) : ∀ b, vs.head? = some b -> h b - h a <= c := by
  induction w with
  | one => intro b hb; simp at hb; subst hb; omega
  | snoc _ he ih =>
    intro b hb
    simp at hb
    subst hb
    have h1 := ih _ rfl
    have h2 := hF.ed he
    omega
theorem Wk.le (hF : Feas ls h) {vs : List Int} (w : Wk ls a (b :: vs) c) : h b - h a <= c := w.feas hF b rfl
theorem Wk.ne {c : Int} (w : Wk ls a [] c) : False := by cases w
theorem Wk.last {vs : List Int} (w : Wk ls a vs c) : vs.getLast? = some a := by
  induction w with
  | one => rfl
  | snoc _ _ ih => rw [List.getLast?_cons_cons]; exact ih
/-- The end of a walk, put behind another one. -/
theorem Wk.cut : ∀ (xs : List Int) {v : Int} {ys : List Int} {c : Int}, Wk ls a (xs ++ v :: ys) c -> ∃ c1, Wk ls a (v :: ys) c1 /\ ∀ (a' : Int) (zs : List Int) (c2 : Int), Wk ls a' (v :: zs) c2 -> Wk ls a' (xs ++ v :: zs) (c2 + (c - c1))
  | [], v, ys, c, w => ⟨c, w, fun a' zs c2 w2 => by rw [show c2 + (c - c) = c2 by omega]; exact w2⟩
  | [x], v, ys, c, w => by
    cases w with
    | snoc w he =>
      refine ⟨_, w, fun a' zs c2 w2 => ?_⟩
      rename_i c0 e
      rw [show c2 + (c0 + e - c0) = c2 + e by omega]
      exact .snoc w2 he
  | x :: y :: xs, v, ys, c, w => by
    cases w with
    | snoc w he =>
      rename_i c0 e
      obtain ⟨c1, h1, h2⟩ := Wk.cut (y :: xs) w
      refine ⟨c1, h1, fun a' zs c2 w2 => ?_⟩
      have := h2 a' zs c2 w2
      rw [show c2 + (c0 + e - c1) = c2 + (c0 - c1) + e by omega]
      exact .snoc this he
theorem Wk.app {m : Int} {vs ws : List Int} {c d : Int} (w : Wk ls a (m :: vs) c) (w' : Wk ls m (b :: ws) d) : ∃ us, Wk ls a (b :: us) (c + d) := by
  generalize hl : b :: ws = l at w'
  induction w' generalizing b ws with
  | one => cases hl; exact ⟨vs, by rw [Int.add_zero]; exact w⟩
  | snoc w2 he ih =>
    cases hl
    obtain ⟨us, hu⟩ := ih rfl
    exact ⟨_, by rw [← Int.add_assoc]; exact .snoc hu he⟩
theorem Wk.edge (e : Ed ls a b c) : Wk ls a [b, a] c := by
  have := Wk.snoc (.one (ls := ls) (a := a)) e
  rwa [Int.zero_add] at this
/-- Who can go can go back. -/
theorem Wk.back {vs : List Int} (w : Wk ls a vs c) : ∀ b, vs.head? = some b -> ∃ us d, Wk ls b (a :: us) d := by
  induction w with
  | one => intro b hb; simp at hb; subst hb; exact ⟨[], 0, .one⟩
  | snoc _ he ih =>
    intro b hb
    simp at hb
    subst hb
    obtain ⟨c', hr⟩ := he.rev
    obtain ⟨us, d, hw⟩ := ih _ rfl
    obtain ⟨vs, hv⟩ := (Wk.edge hr).app hw
    exact ⟨vs, _, hv⟩
theorem not_nodup : ∀ (l : List Int), ¬ l.Nodup -> ∃ xs v ys zs, l = xs ++ v :: (ys ++ v :: zs)
  | [], h => absurd List.nodup_nil h
  | x :: l, h => by
    by_cases hx : x ∈ l
    · obtain ⟨ys, zs, rfl⟩ := List.append_of_mem hx
      exact ⟨[], x, ys, zs, rfl⟩
    · obtain ⟨xs, v, ys, zs, e⟩ := not_nodup l (fun hn => h (List.nodup_cons.2 ⟨hx, hn⟩))
      exact ⟨x :: xs, v, ys, zs, by rw [e]; rfl⟩
/-- A walk without a mark twice can rise no more, if some heights agree. -/
theorem Wk.short (hF : Feas ls h) : ∀ (k : Nat) {vs : List Int} {b c : Int}, vs.length <= k -> Wk ls a (b :: vs) c -> ∃ vs' c', Wk ls a (b :: vs') c' /\ c' <= c /\ (b :: vs').Nodup
  | 0, vs, b, c, hk, w => by
    have : vs = [] := List.length_eq_zero_iff.1 (Nat.le_zero.1 hk)
    subst this
    exact ⟨[], c, w, Int.le_refl _, by simp⟩
  | k + 1, vs, b, c, hk, w => by
    by_cases hn : (b :: vs).Nodup
    · exact ⟨vs, c, w, Int.le_refl _, hn⟩
    · obtain ⟨xs, v, ys, zs, e⟩ := not_nodup _ hn
      rw [e] at w
      obtain ⟨c1, w1, t1⟩ := Wk.cut xs w
      obtain ⟨c2, w2, t2⟩ := Wk.cut (v :: ys) (v := v) (ys := zs) w1
      have w3 := t2 v [] 0 .one
      have h3 : 0 <= c1 - c2 := by have := Wk.le hF w3; omega
      have w4 := t1 a zs c2 w2
      have hlen : (xs ++ v :: zs).length <= k + 1 := by
        have := congrArg List.length e
        simp at this hk ⊢
        omega
      cases xs with
      | nil =>
        simp only [List.nil_append] at e w4 hlen
        have hb : b = v := (List.cons.inj e).1
        subst hb
        obtain ⟨vs', c', g1, g2, g3⟩ := Wk.short hF k (by simpa using hlen) w4
        exact ⟨vs', c', g1, by omega, g3⟩
      | cons x xs =>
        simp only [List.cons_append] at e w4 hlen
        have hb : b = x := (List.cons.inj e).1
        subst hb
        obtain ⟨vs', c', g1, g2, g3⟩ := Wk.short hF k (by simpa using hlen) w4
        exact ⟨vs', c', g1, by omega, g3⟩
/-- All lines lie between marks. -/
def Rng (n : Int) (ls : List Line) : Prop := ∀ l, l ∈ ls -> (0 <= l.src /\ l.src < n) /\ (0 <= l.dst /\ l.dst < n)
theorem Ed.rng {n : Int} (hR : Rng n ls) (e : Ed ls a b c) : (0 <= a /\ a < n) /\ (0 <= b /\ b < n) := by
  obtain ⟨l, hl, ⟨rfl, rfl, rfl⟩ | ⟨rfl, rfl, rfl⟩⟩ := e
  · exact hR l hl
  · exact ⟨(hR l hl).2, (hR l hl).1⟩
theorem Wk.rng {n : Int} (hR : Rng n ls) (ha : 0 <= a /\ a < n) {vs : List Int} (w : Wk ls a vs c) : ∀ v, v ∈ vs -> 0 <= v /\ v < n := by
  induction w with
  | one => intro v hv; simp at hv; subst hv; exact ha
  | snoc _ he ih =>
    intro v hv
    rcases List.mem_cons.1 hv with rfl | hv
    · exact (he.rng hR).2
    · exact ih v hv
/-- A shortest walk has fewer legs than there are marks. -/
theorem Wk.few {n : Nat} (hF : Feas ls h) (hR : Rng n ls) (ha : 0 <= a /\ a < n) {vs : List Int} (w : Wk ls a (b :: vs) c) : ∃ vs' c', Wk ls a (b :: vs') c' /\ c' <= c /\ (b :: vs').Nodup /\ vs'.length + 1 <= n := by
  obtain ⟨vs', c', g1, g2, g3⟩ := Wk.short hF _ (Nat.le_refl _) w
  exact ⟨vs', c', g1, g2, g3, nodup_bound n _ g3 (g1.rng hR ha)⟩
/-- What a walk can rise lies between bounds, as long as a leg's does. -/
theorem Wk.size (hB : ∀ a b c, Ed ls a b c -> -1010000 <= c /\ c <= 1010000) {vs : List Int} (w : Wk ls a vs c) : -(1010000 * (vs.length : Int)) + 1010000 <= c /\ c <= 1010000 * (vs.length : Int) - 1010000 := by
  induction w with
  | one => simp
  | @snoc m b vs c e _ he ih =>
    have h1 := hB _ _ _ he
    simp only [List.length_cons, Int.natCast_succ] at ih ⊢
    omega
/-- The greatest difference. -/
structure IsDist (ls : List Line) (a b d : Int) : Prop where
  has : ∃ vs, Wk ls a (b :: vs) d
  le : ∀ vs c, Wk ls a (b :: vs) c -> d <= c
def Tied (ls : List Line) (a b : Int) : Prop := ∃ vs c, Wk ls a (b :: vs) c
theorem IsDist.tied {d : Int} (h : IsDist ls a b d) : Tied ls a b := let ⟨vs, w⟩ := h.has; ⟨vs, d, w⟩
theorem Tied.refl (ls : List Line) (a : Int) : Tied ls a a := ⟨[], 0, .one⟩
theorem Tied.symm (t : Tied ls a b) : Tied ls b a := by
  obtain ⟨vs, c, w⟩ := t
  obtain ⟨us, d, h⟩ := w.back b rfl
  exact ⟨us, d, h⟩
theorem Tied.trans {m : Int} (t : Tied ls a m) (u : Tied ls m b) : Tied ls a b := by
  obtain ⟨vs, c, w⟩ := t
  obtain ⟨us, d, w'⟩ := u
  obtain ⟨xs, h⟩ := w.app w'
  exact ⟨xs, _, h⟩
theorem Tied.ed (e : Ed ls a b c) : Tied ls a b := ⟨_, _, Wk.edge e⟩
theorem least_nat {p : Nat -> Prop} (h : ∃ n, p n) : ∃ n, p n /\ ∀ k, p k -> n <= k := by
  obtain ⟨n, hn⟩ := h
  induction n using Nat.strongRecOn with
  | _ n ih =>
    by_cases hc : ∃ k, k < n /\ p k
    · obtain ⟨k, hk, hp⟩ := hc
      exact ih k hk hp
    · exact ⟨n, hn, fun k hk => by
        rcases Nat.lt_or_ge k n with hlt | hge
        · exact absurd ⟨k, hlt, hk⟩ hc
        · exact hge⟩
theorem IsDist.uniq {d d' : Int} (h1 : IsDist ls a b d) (h2 : IsDist ls a b d') : d = d' := by
  obtain ⟨vs, w⟩ := h1.has
  obtain ⟨us, w'⟩ := h2.has
  have := h1.le _ _ w'
  have := h2.le _ _ w
  omega
theorem IsDist.self (hF : Feas ls h) : IsDist ls a a 0 := ⟨⟨[], .one⟩, fun _ _ w => by have := w.le hF; omega⟩
theorem IsDist.step {m d e : Int} (h1 : IsDist ls a m d) (he : Ed ls m b e) {d' : Int} (h2 : IsDist ls a b d') : d' <= d + e := by
  obtain ⟨vs, w⟩ := h1.has
  exact h2.le _ _ (.snoc w he)
theorem IsDist.feas {d : Int} (hF : Feas ls h) (h1 : IsDist ls a b d) : h b - h a <= d := by
  obtain ⟨vs, w⟩ := h1.has
  exact w.le hF
end Go.Nm
namespace Go.Nm
/-- A net as it may be. -/
structure NetOk (n : Int) (ls : List Line) : Prop where
  marks : 1 <= n /\ n <= 12
  few : ls.length <= 30
  rng : Rng n ls
  ne : ∀ l, l ∈ ls -> l.src ≠ l.dst
  day : ∀ l, l ∈ ls -> 0 <= l.day /\ l.day <= 40000
  rise : ∀ l, l ∈ ls -> -1000000 <= l.rise /\ l.rise <= 1000000
  err : ∀ l, l ∈ ls -> 0 <= l.err /\ l.err <= 10000
variable {ls : List Line} {n a b c : Int} {h : Int -> Int}
theorem NetOk.ed (hN : NetOk n ls) : ∀ a b c, Ed ls a b c -> -1010000 <= c /\ c <= 1010000 := by
  rintro a b c ⟨l, hl, ⟨_, _, rfl⟩ | ⟨_, _, rfl⟩⟩
  · have := hN.rise l hl; have := hN.err l hl; omega
  · have := hN.rise l hl; have := hN.err l hl; omega
/-- What is known of a row at work. -/
structure BF (ls : List Line) (n a : Int) (D : Int -> Int) (k : Int) : Prop where
  top : ∀ v, 0 <= v -> v < n -> D v <= 1099511627776
  snd : ∀ v, 0 <= v -> v < n -> D v < 1099511627776 -> ∃ vs, Wk ls a (v :: vs) (D v)
  low : ∀ v, 0 <= v -> v < n -> -(1010000 * k) <= D v
  own : D a <= 0
  up : ∀ v, 0 <= v -> v < n -> D v < 1099511627776 -> D v <= 1010000 * k
theorem BF.init (ls : List Line) (n a : Int) : BF ls n a (fun v => if v = a then 0 else 1099511627776) 0 where
  top v _ _ := by first | (split <;> omega) | (dsimp only; split <;> omega)
  snd v _ _ hv := by
    try dsimp only at hv ⊢
    split at hv
    · rename_i e; subst e; rw [if_pos rfl]; exact ⟨[], .one⟩
    · omega
  low v _ _ := by first | (split <;> omega) | (dsimp only; split <;> omega)
  own := by rw [if_pos rfl]; exact Int.le_refl _
  up v _ _ := by first | (split <;> omega) | (dsimp only; split <;> omega)
theorem BF.congr {D D' : Int -> Int} {k : Int} (hB : BF ls n a D k) (ha : 0 <= a /\ a < n) (hN : Rng n ls) (e : ∀ v, 0 <= v -> v < n -> D' v = D v) : BF ls n a D' k where
  top v h0 h1 := by rw [e v h0 h1]; exact hB.top v h0 h1
  snd v h0 h1 := by rw [e v h0 h1]; exact hB.snd v h0 h1
  low v h0 h1 := by rw [e v h0 h1]; exact hB.low v h0 h1
  own := by rw [e a ha.1 ha.2]; exact hB.own
  up v h0 h1 := by rw [e v h0 h1]; exact hB.up v h0 h1
theorem BF.mono {D : Int -> Int} {k k' : Int} (hB : BF ls n a D k) (hk : k <= k') : BF ls n a D k' := ⟨hB.top, hB.snd, fun v h0 h1 => by have := hB.low v h0 h1; omega, hB.own, fun v h0 h1 h2 => by have := hB.up v h0 h1 h2; omega⟩
theorem BF.relax {D : Int -> Int} {k m g e : Int} (hB : BF ls n a D k) (hk : 0 <= k) (he : Ed ls m g e) (hb : -1010000 <= e /\ e <= 1010000) (hm : 0 <= m /\ m < n) (hg : 0 <= g /\ g < n) (h1 : D m < 1099511627776) (h2 : D m + e < D g) : BF ls n a (fun v => if v = g then D m + e else D v) (k + 1) where
  top v h0 h3 := by
    try dsimp only
    split
    · have := hB.top g hg.1 hg.2; omega
    · exact hB.top v h0 h3
  snd v h0 h3 hv := by
    try dsimp only at hv ⊢
    split at hv
    · rename_i e; subst e
      rw [if_pos rfl]
      obtain ⟨vs, w⟩ := hB.snd m hm.1 hm.2 h1
      exact ⟨_, .snoc w he⟩
    · rename_i e; rw [if_neg e]; exact hB.snd v h0 h3 hv
  low v h0 h3 := by
    try dsimp only
    split
    · have := hB.low m hm.1 hm.2; omega
    · have := hB.low v h0 h3; omega
  own := by
    try dsimp only
    split
    · rename_i e; subst e; have := hB.own; omega
    · exact hB.own
  up v h0 h3 hv := by
    try dsimp only at hv ⊢
    split at hv
    · rename_i e; rw [if_pos e]; have := hB.up m hm.1 hm.2 h1; omega
    · rename_i e; rw [if_neg e]; have := hB.up v h0 h3 hv; omega
/-- Walks of so many legs are told. -/
def Cov (ls : List Line) (a : Int) (D : Int -> Int) (r : Nat) : Prop := ∀ vs b c, Wk ls a (b :: vs) c -> vs.length <= r -> D b <= c
theorem Cov.zero {D : Int -> Int} (h : D a <= 0) : Cov ls a D 0 := by
  intro vs b c w hl
  have : vs = [] := List.length_eq_zero_iff.1 (Nat.le_zero.1 hl)
  subst this
  cases w
  exact h
theorem Cov.next {D D' : Int -> Int} {r : Nat} (hN : NetOk n ls) (hr : r <= 1000) (hC : Cov ls a D r) (ha : 0 <= a /\ a < n) (hle : ∀ v, 0 <= v -> v < n -> D' v <= D v) (hE : ∀ m g e, Ed ls m g e -> D m < 1099511627776 -> D' g <= D m + e) : Cov ls a D' (r + 1) := by
  intro vs b c w hl
  cases w with
  | one => exact Int.le_trans (hle _ ha.1 ha.2) (hC [] _ _ .one (Nat.zero_le _))
  | snoc w he =>
    rename_i m ws c0 e
    have h1 := hC _ _ _ w (by simpa using hl)
    have h2 := w.size hN.ed
    simp only [List.length_cons] at h2 hl
    have h3 : D m < 1099511627776 := by omega
    have := hE _ _ _ he h3
    omega
/-- At the end. -/
structure Done (ls : List Line) (n a : Int) (D : Int -> Int) : Prop where
  far : ∀ v, 0 <= v -> v < n -> D v ≠ 1099511627776 -> D v < 1099511627776
  dist : ∀ v, 0 <= v -> v < n -> D v < 1099511627776 -> IsDist ls a v (D v)
  tied : ∀ v, 0 <= v -> v < n -> Tied ls a v -> D v < 1099511627776
theorem BF.done {D : Int -> Int} {k : Int} {r N : Nat} (hN : NetOk n ls) (hF : Feas ls h) (e : (N : Int) = n) (ha : 0 <= a /\ a < n) (hB : BF ls n a D k) (hC : Cov ls a D r) (hr : N <= r + 1) : Done ls n a D := by
  have hle : ∀ vs b c, Wk ls a (b :: vs) c -> D b <= c /\ D b < 1099511627776 := by
    intro vs b c w
    obtain ⟨vs', c', w', h1, h2, h3⟩ := w.few (n := N) hF (by rw [e]; exact hN.rng) (by rw [e]; exact ha)
    have h4 := hC _ _ _ w' (by omega)
    have h5 := w'.size hN.ed
    simp only [List.length_cons] at h5
    have := hN.marks
    exact ⟨by omega, by omega⟩
  refine ⟨fun v h0 h1 h2 => ?_, fun v h0 h1 h2 => ⟨hB.snd v h0 h1 h2, fun vs c w => (hle vs v c w).1⟩, fun v h0 h1 ⟨vs, c, w⟩ => (hle vs v c w).2⟩
  have := hB.top v h0 h1
  omega
/-- Rows that no leg makes less. -/
structure Tight (ls : List Line) (n : Int) (T : Int -> Int -> Int) : Prop where
  leg : ∀ a m g e, 0 <= a -> a < n -> Ed ls m g e -> T a m < 1099511627776 -> T a g <= T a m + e
  zero : ∀ a, 0 <= a -> a < n -> T a a = 0
theorem Tight.feas {T : Int -> Int -> Int} (hN : NetOk n ls) (hS : Tight ls n T) (ht : ∀ a v, 0 <= a -> a < n -> 0 <= v -> v < n -> T a v <= 1099511627776) (f : Int -> Int)
    (hf : ∀ v, 0 <= v -> v < n -> (0 <= f v /\ f v < n) /\ T (f v) v < 1099511627776 /\ ∀ u, 0 <= u -> u < f v -> ¬ T u v < 1099511627776) (hb : ∀ a m g e, 0 <= a -> a < n -> Ed ls m g e -> T a m < 1099511627776 -> T a m + e < 1099511627776) : Feas ls (fun v => T (f v) v) := by
  refine feas_of fun m g e he => ?_
  have hr := he.rng hN.rng
  have hm := hf m hr.1.1 hr.1.2
  have hg := hf g hr.2.1 hr.2.2
  have step : ∀ u v, Ed ls u v e ∨ (∃ e', Ed ls u v e') -> True := fun _ _ _ => trivial
  have same : f m = f g := by
    have key : ∀ u v e', Ed ls u v e' -> f v <= f u := by
      intro u v e' h'
      have hr' := h'.rng hN.rng
      have h1 := hf u hr'.1.1 hr'.1.2
      have h2 := hf v hr'.2.1 hr'.2.2
      have h3 := hS.leg _ _ _ _ h1.1.1 h1.1.2 h' h1.2.1
      have h4 := hb _ _ _ _ h1.1.1 h1.1.2 h' h1.2.1
      rcases Int.lt_or_le (f u) (f v) with hlt | hge
      · exact absurd (by omega) (h2.2.2 (f u) h1.1.1 hlt)
      · exact hge
    obtain ⟨e', hr'⟩ := he.rev
    have := key _ _ _ he
    have := key _ _ _ hr'
    omega
  try dsimp only
  have h3 := hS.leg (f m) m g e hm.1.1 hm.1.2 he hm.2.1
  rw [← same]
  omega
/-! ### Legs, and the last legs of shortest walks -/
def LegOk (ls : List Line) (g : Leg) : Prop := 0 <= g.line /\ g.line < (ls.length : Int)
def lnOf (ls : List Line) (g : Leg) : Line := ls.getD (Int.toNat g.line) default
def sOf (ls : List Line) (g : Leg) : Int := legEnd g.back (lnOf ls g)
def gOf (ls : List Line) (g : Leg) : Int := legEnd (!g.back) (lnOf ls g)
def rOf (ls : List Line) (g : Leg) : Int := bif g.back then (lnOf ls g).err - (lnOf ls g).rise else (lnOf ls g).err + (lnOf ls g).rise
theorem LegOk.mem {g : Leg} (h : LegOk ls g) : lnOf ls g ∈ ls := by
  unfold lnOf
  have hl : Int.toNat g.line < ls.length := by have := h.1; have := h.2; omega
  rw [getD_el ls hl]
  exact List.getElem_mem hl
theorem LegOk.ed {g : Leg} (h : LegOk ls g) : Ed ls (sOf ls g) (gOf ls g) (rOf ls g) := by
  refine ⟨lnOf ls g, h.mem, ?_⟩
  unfold sOf gOf rOf legEnd
  cases g.back with
  | true => exact .inr ⟨rfl, rfl, rfl⟩
  | false => exact .inl ⟨rfl, rfl, rfl⟩
theorem leg_of (he : Ed ls a b c) : ∃ (i : Nat) (k : Bool), i < ls.length /\ sOf ls ⟨i, k⟩ = a /\ gOf ls ⟨i, k⟩ = b /\ rOf ls ⟨i, k⟩ = c := by
  obtain ⟨l, hl, h⟩ := he
  obtain ⟨i, hi, rfl⟩ := mem_getD hl default
  rcases h with ⟨rfl, rfl, rfl⟩ | ⟨rfl, rfl, rfl⟩
  · exact ⟨i, false, hi, rfl, rfl, rfl⟩
  · exact ⟨i, true, hi, rfl, rfl, rfl⟩
/-- The last legs lead back to the first mark. -/
inductive Ch (ls : List Line) (a : Int) (by_ : Int -> Leg) : Int -> Prop
  | root : Ch ls a by_ a
  | up {v : Int} (hv : v ≠ a) (h : Ch ls a by_ (sOf ls (by_ v))) : Ch ls a by_ v
structure ByOk (ls : List Line) (n a : Int) (D : Int -> Int) (by_ : Int -> Leg) : Prop where
  leg : ∀ v, 0 <= v -> v < n -> v ≠ a -> D v < 1099511627776 -> LegOk ls (by_ v) /\ gOf ls (by_ v) = v /\ D (sOf ls (by_ v)) + rOf ls (by_ v) <= D v /\ D (sOf ls (by_ v)) < 1099511627776
  chn : ∀ h, Feas ls h -> ∀ v, 0 <= v -> v < n -> D v < 1099511627776 -> Ch ls a by_ v
theorem ByOk.init (ls : List Line) (n a : Int) (by_ : Int -> Leg) : ByOk ls n a (fun v => if v = a then 0 else 1099511627776) by_ where
  leg v _ _ hv h := by rw [if_neg hv] at h; omega
  chn h _ v _ _ hd := by
    by_cases e : v = a
    · subst e; exact .root
    · rw [if_neg e] at hd; omega
theorem Ch.congr {by_ by' : Int -> Leg} (e : ∀ v, 0 <= v -> v < n -> by' v = by_ v) (hR : ∀ v, 0 <= v -> v < n -> v ≠ a -> Ch ls a by_ v -> 0 <= sOf ls (by_ v) /\ sOf ls (by_ v) < n) {v : Int} (h0 : 0 <= v /\ v < n) (h : Ch ls a by_ v) : Ch ls a by' v := by
  induction h with
  | root => exact .root
  | @up v hv hc ih => exact .up hv (by rw [e v h0.1 h0.2]; exact ih (hR v h0.1 h0.2 hv (.up hv hc)))
theorem ByOk.congr {D D' : Int -> Int} {by_ by' : Int -> Leg} (hN : NetOk n ls) (hB : ByOk ls n a D by_) (e : ∀ v, 0 <= v -> v < n -> D' v = D v) (e' : ∀ v, 0 <= v -> v < n -> by' v = by_ v) : ByOk ls n a D' by' where
  leg v h0 h1 hv hd := by
    rw [e v h0 h1] at hd ⊢
    rw [e' v h0 h1]
    obtain ⟨h2, h3, h4, h5⟩ := hB.leg v h0 h1 hv hd
    have hr := (h2.ed.rng hN.rng).1
    rw [e _ hr.1 hr.2]
    exact ⟨h2, h3, h4, h5⟩
  chn h hF v h0 h1 hd := by
    rw [e v h0 h1] at hd
    have hc := hB.chn h hF v h0 h1 hd
    have key : ∀ v, Ch ls a by_ v -> 0 <= v -> v < n -> D v < 1099511627776 -> Ch ls a by' v := by
      intro v hc
      induction hc with
      | root => exact fun _ _ _ => .root
      | @up v hv hc ih =>
        intro h0 h1 hd
        obtain ⟨h2, h3, h4, h5⟩ := hB.leg v h0 h1 hv hd
        have hr := (h2.ed.rng hN.rng).1
        exact .up hv (by rw [e' v h0 h1]; exact ih hr.1 hr.2 h5)
    exact key v hc h0 h1 hd
theorem ByOk.relax {D : Int -> Int} {by_ : Int -> Leg} {k : Int} {x : Leg} (hN : NetOk n ls) (hB : ByOk ls n a D by_) (hD : BF ls n a D k) (hx : LegOk ls x) (h1 : D (sOf ls x) < 1099511627776) (h2 : D (sOf ls x) + rOf ls x < D (gOf ls x)) :
    ByOk ls n a (fun v => if v = gOf ls x then D (sOf ls x) + rOf ls x else D v) (fun v => if v = gOf ls x then x else by_ v) := by
  have he := hx.ed
  have hr := he.rng hN.rng
  have hne : sOf ls x ≠ gOf ls x := by
    unfold sOf gOf legEnd
    have := hN.ne _ hx.mem
    cases x.back with
    | true => exact fun e => this e.symm
    | false => exact this
  have hle : ∀ v, (if v = gOf ls x then D (sOf ls x) + rOf ls x else D v) <= D v := fun v => by
    split
    · rename_i e; rw [e]; omega
    · exact Int.le_refl _
  refine ⟨fun v h0 h3 hv hd => ?_, fun h hF v h0 h3 hd => ?_⟩
  · by_cases e : v = gOf ls x
    · subst e
      simp only [if_true] at hd ⊢
      rw [if_neg hne]
      exact ⟨hx, trivial, Int.le_refl _, h1⟩
    · simp only [if_neg e] at hd ⊢
      obtain ⟨g1, g2, g3, g4⟩ := hB.leg v h0 h3 hv hd
      have := hle (sOf ls (by_ v))
      exact ⟨g1, g2, by omega, by omega⟩
  · -- the last legs lead to the first mark without the one that is turned
    have hga : gOf ls x ≠ a := by
      intro e
      obtain ⟨vs, w⟩ := hD.snd _ hr.1.1 hr.1.2 h1
      have q1 := (Wk.snoc w he).le hF
      have q2 := hD.own
      rw [e] at q1 h2
      omega
    have key : ∀ u, Ch ls a by_ u -> 0 <= u -> u < n -> D u < 1099511627776 -> ∀ vs c, Wk ls u (sOf ls x :: vs) c -> D u + c <= D (sOf ls x) -> Ch ls a (fun v => if v = gOf ls x then x else by_ v) u := by
      intro u hc
      induction hc with
      | root => exact fun _ _ _ _ _ _ _ => .root
      | @up u hu hc ih =>
        intro h0 h3 hd vs c w hle
        obtain ⟨g1, g2, g3, g4⟩ := hB.leg u h0 h3 hu hd
        have hr' := (g1.ed.rng hN.rng).1
        have hug : u ≠ gOf ls x := by
          intro e
          have q1 := (Wk.snoc w he).le hF
          rw [e] at q1 hle
          omega
        refine .up hu ?_
        rw [if_neg hug]
        have e1 := g1.ed
        rw [g2] at e1
        obtain ⟨us, hw⟩ := (Wk.edge e1).app w
        exact ih hr'.1 hr'.2 g4 us _ hw (by omega)
    have hm : Ch ls a (fun v => if v = gOf ls x then x else by_ v) (sOf ls x) := key _ (hB.chn h hF _ hr.1.1 hr.1.2 h1) hr.1.1 hr.1.2 h1 [] 0 .one (by omega)
    have hg : Ch ls a (fun v => if v = gOf ls x then x else by_ v) (gOf ls x) := .up hga (by rw [if_pos rfl]; exact hm)
    have all : ∀ u, Ch ls a by_ u -> Ch ls a (fun v => if v = gOf ls x then x else by_ v) u := by
      intro u hc
      induction hc with
      | root => exact .root
      | @up u hu hc ih =>
        by_cases e : u = gOf ls x
        · rw [e]; exact hg
        · exact .up hu (by rw [if_neg e]; exact ih)
    by_cases e : v = gOf ls x
    · rw [e]; exact hg
    · simp only [if_neg e] at hd
      exact all v (hB.chn h hF v h0 h3 hd)
end Go.Nm
namespace Go.Proofs.Ytclhljenjphofaa
open Go Go.Nm
variable {ls : List Line} {n : Int}
theorem start_ends {g : Leg} (hg : LegOk ls g) : (m_level_survey_start n ls g).Ends (sOf ls g) := by
  unfold m_level_survey_start
  exact M.i_grd (gA2 hg.1 hg.2) M.i_pure
theorem goal_ends {g : Leg} (hg : LegOk ls g) : (m_level_survey_goal n ls g).Ends (gOf ls g) := by
  unfold m_level_survey_goal
  exact M.i_grd (gA2 hg.1 hg.2) M.i_pure
theorem rise_ends {N : Int} (hN : NetOk N ls) {g : Leg} (hg : LegOk ls g) : (m_level_survey_rise n ls g).Ends (rOf ls g) := by
  unfold m_level_survey_rise
  have h1 := hN.rise _ hg.mem
  have h2 := hN.err _ hg.mem
  unfold lnOf at h1 h2
  refine M.i_grd (gA2 hg.1 hg.2) (M.i_if (fun hb => ?_) (fun hb => ?_))
  · unfold rOf; rw [hb]
    exact M.i_grd (gA2 (by omega) (by omega)) M.i_pure
  · unfold rOf; rw [hb]
    exact M.i_grd (gA2 (by omega) (by omega)) M.i_pure
theorem sum2_ends {x y : Int} (h1 : -1000000000000000 <= x /\ x <= 1000000000000000) (h2 : -1000000000000000 <= y /\ y <= 1000000000000000) : (m_level_sum [x, y]).Ends (x + y) := by
  unfold m_level_sum
  refine M.i_bind (a := x + y) ?_ M.i_pure
  refine M.i_next (s' := (0 + x, 0 + 1)) ?_ (M.i_next (s' := (0 + x + y, 0 + 1 + 1)) ?_ (M.i_stop ?_))
  · simp only [m_level_sum_b0]
    exact M.i_t (by simp) (M.i_grd (by simp) (M.i_grd (gA2 (by simp; omega) (by simp; omega)) M.i_pure))
  · simp only [m_level_sum_b0]
    exact M.i_t (by simp) (M.i_grd (by simp) (M.i_grd (gA2 (by simp; omega) (by simp; omega)) M.i_pure))
  · simp only [m_level_sum_b0]
    rw [show x + y = 0 + x + y by omega]
    exact M.i_f (by simp) M.i_pure
/-- A walk over the legs that begin at a mark. -/
theorem legs_out {S X : Type} {bd : S -> Leg -> M (S ⊕ X)} {m : Int} (J : Nat -> S -> Prop) (QX : X -> Prop)
    (step : ∀ (i : Nat) (k : Bool) (s : S), i < ls.length -> sOf ls ⟨i, k⟩ = m -> J (2 * i + k.toNat) s -> (bd s ⟨i, k⟩).Out (fun r => match r with | .inl s' => J (2 * i + k.toNat + 1) s' | .inr x => QX x))
    (skip : ∀ (i : Nat) (k : Bool) (s : S), i < ls.length -> sOf ls ⟨i, k⟩ ≠ m -> J (2 * i + k.toNat) s -> J (2 * i + k.toNat + 1) s)
    {s : S} (h : J 0 s) : (m_level_survey_legs_1 (M.yl bd) (.inl s) n ls m).Out (fun r => match r with | .inl s' => J (2 * ls.length) s' | .inr x => QX x) := by
  unfold m_level_survey_legs_1
  refine M.o_bind (P := fun y => match y with | .inl t => ∃ x, t = .inr x /\ QX x | .inr t => ∃ s, t = .inl s /\ J (2 * ls.length) s) ?_ ?_
  · refine M.o_for ls.length (fun i st => st.1 = i /\ ∃ s, st.2 = .inl s /\ J (2 * i) s) ?_ ?_ ⟨rfl, s, rfl, h⟩
    · rintro i ⟨s2, t⟩ hi ⟨rfl, s, rfl, hJ⟩
      dsimp only at hi hJ
      have one : ∀ (k : Bool) (s : S), J (2 * s2 + k.toNat) s -> (M.bind (m_level_survey_start n ls ⟨s2, k⟩) fun r2 => M.bind (M.opt (r2 == m) (M.yl bd (.inl s) ⟨s2, k⟩) (false, .inl s)) fun (go, t) =>
          bif ((r2 == m) && (!go)) then (M.pure (.inr (.inl t))) else (M.pure (.inl (k.toNat + 1, t)))).Out
          (fun y : ((Nat × (S ⊕ X)) ⊕ ((S ⊕ X) ⊕ (S ⊕ X))) => match y with | .inl st => st.1 = k.toNat + 1 /\ ∃ s, st.2 = .inl s /\ J (2 * s2 + (k.toNat + 1)) s | .inr (.inl t) => ∃ x, t = .inr x /\ QX x | .inr (.inr _) => False) := by
        intro k s hJ
        refine M.o_bindE (start_ends ⟨by show (0 : Int) <= (s2 : Int); omega, by show (s2 : Int) < _; omega⟩) ?_
        by_cases hm : sOf ls ⟨s2, k⟩ = m
        · have hb : (sOf ls ⟨s2, k⟩ == m) = true := by rw [beq_iff_eq]; exact hm
          rw [hb]
          refine M.o_bind (P := fun y => match y.1 with | true => ∃ s, y.2 = .inl s /\ J (2 * s2 + k.toNat + 1) s | false => ∃ x, y.2 = .inr x /\ QX x) ?_ ?_
          · refine M.o_bind (step s2 k s hi hm hJ) ?_
            rintro (s' | x) hs
            · exact M.o_pure ⟨s', rfl, hs⟩
            · exact M.o_pure ⟨x, rfl, hs⟩
          · rintro ⟨go, t⟩ hy
            cases go with
            | true => exact M.o_pure ⟨rfl, hy⟩
            | false => exact M.o_pure hy
        · have hb : (sOf ls ⟨s2, k⟩ == m) = false := by rw [beq_eq_false_iff_ne]; exact hm
          rw [hb]
          refine M.o_bindE (a := (false, .inl s)) (M.i_opt (fun h => by cases h) (fun _ => rfl)) ?_
          exact M.o_pure ⟨rfl, s, rfl, skip s2 k s hi hm hJ⟩
      simp only [m_level_survey_legs_1_b2]
      refine M.o_t (by simpa using hi) ?_
      refine M.o_bind (P := fun y => match y with | .inl t => ∃ x, t = .inr x /\ QX x | .inr t => ∃ s, t = .inl s /\ J (2 * (s2 + 1)) s) ?_ ?_
      · refine M.o_for 2 (fun j st => st.1 = j /\ ∃ s, st.2 = .inl s /\ J (2 * s2 + j) s) ?_ ?_ ⟨rfl, s, rfl, hJ⟩
        · rintro j ⟨s3, t⟩ hj ⟨rfl, s, rfl, hJ⟩
          dsimp only at hj hJ
          simp only [m_level_survey_legs_1_b1]
          refine M.o_t (by simp; omega) (M.o_grd (by simp; omega) ?_)
          rcases (show s3 = 0 ∨ s3 = 1 by omega) with rfl | rfl
          · exact M.o_mono (one false s hJ) (fun y hy => by rcases y with st | t | t; exact hy; exact hy; exact hy.elim)
          · exact M.o_mono (one true s hJ) (fun y hy => by rcases y with st | t | t; exact hy; exact hy; exact hy.elim)
        · rintro ⟨s3, t⟩ ⟨rfl, s, rfl, hJ⟩
          simp only [m_level_survey_legs_1_b1]
          exact M.o_f (by simp) (M.o_pure ⟨s, rfl, hJ⟩)
      · rintro (t | t) hy
        · exact M.o_pure hy
        · exact M.o_pure ⟨rfl, hy⟩
    · rintro ⟨s2, t⟩ ⟨rfl, s, rfl, hJ⟩
      simp only [m_level_survey_legs_1_b2]
      exact M.o_f (by simp) (M.o_pure ⟨s, rfl, hJ⟩)
  · rintro (t | t) hy
    · obtain ⟨x, rfl, hx⟩ := hy
      exact M.o_pure hx
    · obtain ⟨s, rfl, hs⟩ := hy
      exact M.o_pure hs
end Go.Proofs.Ytclhljenjphofaa
namespace Go.Nm
def rw_ (can : List Int) (a v : Int) : Int := can.getD (Int.toNat a * 13 + Int.toNat v) 0
def rb_ (by_ : List Leg) (a v : Int) : Leg := by_.getD (Int.toNat a * 13 + Int.toNat v) default
variable {ls : List Line} {n a : Int}
structure FI (ls : List Line) (n a : Int) (can0 : List Int) (by0 : List Leg) (k : Int) (can : List Int) (by_ : List Leg) : Prop where
  lc : can.length = 169
  lb : by_.length = 169
  oth : ∀ i, (i < Int.toNat a * 13 ∨ Int.toNat a * 13 + 13 <= i) -> can.getD i 0 = can0.getD i 0 /\ by_.getD i default = by0.getD i default
  bf : BF ls n a (rw_ can a) k
  bo : ByOk ls n a (rw_ can a) (rb_ by_ a)
theorem FI.mono {can0 can : List Int} {by0 by_ : List Leg} {k k' : Int} (h : FI ls n a can0 by0 k can by_) (hk : k <= k') : FI ls n a can0 by0 k' can by_ := ⟨h.lc, h.lb, h.oth, h.bf.mono hk, h.bo⟩
theorem rw_set {can : List Int} (hl : can.length = 169) {a g : Int} (ha : 0 <= a /\ a < 12) (hg : 0 <= g /\ g < 13) (x : Int) (v : Int) (h0 : 0 <= v) (h1 : v < 13) : rw_ (can.set (Int.toNat a * 13 + Int.toNat g) x) a v = if v = g then x else rw_ can a v := by
  unfold rw_
  rw [gset _ _ _ _ _ (by omega)]
  by_cases e : v = g
  · rw [if_pos e, if_pos (by rw [e])]
  · rw [if_neg e, if_neg (by omega)]
theorem rb_set {by_ : List Leg} (hl : by_.length = 169) {a g : Int} (ha : 0 <= a /\ a < 12) (hg : 0 <= g /\ g < 13) (x : Leg) (v : Int) (h0 : 0 <= v) (h1 : v < 13) : rb_ (by_.set (Int.toNat a * 13 + Int.toNat g) x) a v = if v = g then x else rb_ by_ a v := by
  unfold rb_
  rw [gset _ _ _ _ _ (by omega)]
  by_cases e : v = g
  · rw [if_pos e, if_pos (by rw [e])]
  · rw [if_neg e, if_neg (by omega)]
theorem FI.relax {can0 can : List Int} {by0 by_ : List Leg} {k : Int} {x : Leg} (hN : NetOk n ls) (ha : 0 <= a /\ a < n) (h : FI ls n a can0 by0 k can by_) (hk : 0 <= k) (hx : LegOk ls x) (h1 : rw_ can a (sOf ls x) < 1099511627776) (h2 : rw_ can a (sOf ls x) + rOf ls x < rw_ can a (gOf ls x)) :
    FI ls n a can0 by0 (k + 1) (can.set (Int.toNat a * 13 + Int.toNat (gOf ls x)) (rw_ can a (sOf ls x) + rOf ls x)) (by_.set (Int.toNat a * 13 + Int.toNat (gOf ls x)) x) := by
  have hm := hN.marks
  have hr := hx.ed.rng hN.rng
  have e1 : ∀ v, 0 <= v -> v < n -> rw_ (can.set (Int.toNat a * 13 + Int.toNat (gOf ls x)) (rw_ can a (sOf ls x) + rOf ls x)) a v = if v = gOf ls x then rw_ can a (sOf ls x) + rOf ls x else rw_ can a v := fun v h0 h3 => rw_set h.lc (by omega) (by omega) _ v h0 (by omega)
  have e2 : ∀ v, 0 <= v -> v < n -> rb_ (by_.set (Int.toNat a * 13 + Int.toNat (gOf ls x)) x) a v = if v = gOf ls x then x else rb_ by_ a v := fun v h0 h3 => rb_set h.lb (by omega) (by omega) _ v h0 (by omega)
  refine ⟨by rw [List.length_set]; exact h.lc, by rw [List.length_set]; exact h.lb, fun i hi => ?_, ?_, ?_⟩
  · rw [gset _ _ _ _ _ (by rw [h.lc]; omega), gset _ _ _ _ _ (by rw [h.lb]; omega), if_neg (by omega), if_neg (by omega)]
    exact h.oth i hi
  · exact (h.bf.relax hk hx.ed (hN.ed _ _ _ hx.ed) hr.1 hr.2 h1 h2).congr ha hN.rng e1
  · exact (h.bo.relax hN h.bf hx h1 h2).congr hN e1 e2
/-- These legs make nothing less than they did when the round began. -/
def Rlx (ls : List Line) (D0 D : Int -> Int) (pr : Nat -> Bool -> Prop) : Prop := ∀ (i : Nat) (k : Bool), i < ls.length -> pr i k -> D0 (sOf ls ⟨i, k⟩) < 1099511627776 -> D (gOf ls ⟨i, k⟩) <= D0 (sOf ls ⟨i, k⟩) + rOf ls ⟨i, k⟩
theorem Rlx.le {D0 D D' : Int -> Int} {pr pr' : Nat -> Bool -> Prop} (hR : Rng n ls) (h : Rlx ls D0 D pr) (hle : ∀ v, 0 <= v -> v < n -> D' v <= D v) (hp : ∀ i k, i < ls.length -> pr' i k -> pr i k) : Rlx ls D0 D' pr' := fun i k hi hpr hd => by
  have hx : LegOk ls ⟨i, k⟩ := ⟨by show (0 : Int) <= (i : Int); omega, by show (i : Int) < _; omega⟩
  have hr := (hx.ed.rng hR).2
  have := h i k hi (hp i k hi hpr) hd
  have := hle _ hr.1 hr.2
  omega
theorem Rlx.all {D0 D : Int -> Int} (h : Rlx ls D0 D (fun _ _ => True)) : ∀ m g e, Ed ls m g e -> D0 m < 1099511627776 -> D g <= D0 m + e := by
  intro m g e he hd
  obtain ⟨i, k, hi, rfl, rfl, rfl⟩ := leg_of he
  exact h i k hi trivial hd
end Go.Nm
section
set_option maxRecDepth 100000
set_option maxHeartbeats 16000000
namespace Go.Proofs.Ytclhljenjphofaa
open Go Go.Nm
variable {ls : List Line} {n a : Int}
theorem ij {i : Nat} {k : Bool} (hi : i < ls.length) : LegOk ls ⟨i, k⟩ := ⟨by show (0 : Int) <= (i : Int); omega, by show (i : Int) < _; omega⟩
/-- One leg. -/
theorem fill_leg (hN : NetOk n ls) (ha : 0 <= a /\ a < n) {can0 can : List Int} {by0 by_ : List Leg} {k : Int} {m i : Nat} {b : Bool} (hi : i < ls.length) (hs : sOf ls ⟨i, b⟩ = (m : Int)) (hk : 0 <= k /\ k <= 100000) (h : FI ls n a can0 by0 k can by_) (hd : rw_ can a m < 1099511627776) :
    (m_level_survey_fill_b4 n ls a m (can, by_) ⟨i, b⟩).Out (fun r => match r with | .inl s => FI ls n a can0 by0 (k + 1) s.1 s.2 /\ (∀ v, 0 <= v -> v < n -> rw_ s.1 a v <= rw_ can a v) /\ rw_ s.1 a (gOf ls ⟨i, b⟩) <= rw_ can a m + rOf ls ⟨i, b⟩ | .inr _ => False) := by
  have hx : LegOk ls ⟨i, b⟩ := ij hi
  have hr := hx.ed.rng hN.rng
  have hm := hN.marks
  have hc := hN.ed _ _ _ hx.ed
  have hlo := h.bf.low m (by omega) (by rw [← hs]; exact hr.1.2)
  simp only [m_level_survey_fill_b4]
  refine M.o_bindE (rise_ends hN hx) ?_
  refine M.o_bindE (a := rw_ can a m + rOf ls ⟨i, b⟩) (sum2_ends (x := can.getD (Int.toNat a * 13 + m) 0) (by unfold rw_ at hlo hd; rw [Int.toNat_natCast] at hlo hd; omega) (by omega)) ?_
  refine M.o_bindE (goal_ends hx) ?_
  refine M.o_grd (gA2 (by omega) (by omega)) ?_
  refine M.o_if (fun hb => ?_) (fun hb => ?_)
  · have hb := of_decide_eq_true hb
    refine M.o_bindE (goal_ends hx) (M.o_bindE (goal_ends hx) (M.o_grd (gA2 (by omega) (by omega)) (M.o_grd (gA2 (by omega) (by omega)) (M.o_pure ?_))))
    have h1 := h.relax hN ha hk.1 hx (by rw [hs]; exact hd) (by rw [hs]; exact hb)
    rw [hs] at h1
    have e1 : ∀ v, 0 <= v -> v < n -> rw_ (can.set (Int.toNat a * 13 + Int.toNat (gOf ls ⟨i, b⟩)) (rw_ can a m + rOf ls ⟨i, b⟩)) a v = if v = gOf ls ⟨i, b⟩ then rw_ can a m + rOf ls ⟨i, b⟩ else rw_ can a v := fun v h0 h3 => rw_set h.lc (by omega) (by omega) _ v h0 (by omega)
    refine ⟨h1, fun v h0 h3 => ?_, ?_⟩
    · dsimp only
      rw [e1 v h0 h3]
      split
      · rename_i e
        rw [e]
        exact Int.le_of_lt hb
      · exact Int.le_refl _
    · dsimp only
      rw [e1 _ hr.2.1 hr.2.2, if_pos rfl]
      exact Int.le_refl _
  · have hb := of_decide_eq_false hb
    refine M.o_pure ⟨h.mono (by omega), fun v _ _ => Int.le_refl _, ?_⟩
    dsimp only
    unfold rw_ at *
    omega
/-- The legs at a mark. -/
theorem fill_mark (hN : NetOk n ls) (ha : 0 <= a /\ a < n) {can0 can : List Int} {by0 by_ : List Leg} {k : Int} {m : Nat} (hm : (m : Int) < n) (hk : 0 <= k /\ k <= 90000) (h : FI ls n a can0 by0 k can by_) {D0 : Int -> Int} (hle : ∀ v, 0 <= v -> v < n -> rw_ can a v <= D0 v) (hR : Rlx ls D0 (rw_ can a) (fun i b => sOf ls ⟨i, b⟩ < (m : Int))) (hd : rw_ can a m < 1099511627776) :
    (m_level_survey_legs_1 (M.yl (m_level_survey_fill_b4 n ls a m)) (.inl (can, by_)) n ls m).Out (fun r => match r with | .inl s => FI ls n a can0 by0 (k + 60) s.1 s.2 /\ (∀ v, 0 <= v -> v < n -> rw_ s.1 a v <= D0 v) /\ Rlx ls D0 (rw_ s.1 a) (fun i b => sOf ls ⟨i, b⟩ < (m : Int) + 1) | .inr _ => False) := by
  have hf := hN.few
  refine M.o_mono (legs_out (m := (m : Int)) (fun idx s => FI ls n a can0 by0 (k + idx) s.1 s.2 /\ (∀ v, 0 <= v -> v < n -> rw_ s.1 a v <= D0 v) /\ rw_ s.1 a m < 1099511627776 /\ Rlx ls D0 (rw_ s.1 a) (fun i b => sOf ls ⟨i, b⟩ < (m : Int) ∨ (sOf ls ⟨i, b⟩ = (m : Int) /\ 2 * i + b.toNat < idx))) (fun _ => False) ?_ ?_ (s := (can, by_)) ⟨h.mono (by omega), hle, hd, hR.le hN.rng (fun v _ _ => Int.le_refl _) (fun i b _ hp => by rcases hp with hp | ⟨_, hp⟩; exact hp; omega)⟩) ?_
  · rintro i b ⟨s, s2⟩ hi hs ⟨hF, hle, hd, hR⟩
    dsimp only at hF hle hd hR
    have hb2 : b.toNat <= 1 := by cases b <;> decide
    refine M.o_mono (fill_leg hN ha hi hs (by omega) hF hd) ?_
    rintro (⟨t, t2⟩ | x) hy
    · obtain ⟨h1, h2, h3⟩ := hy
      dsimp only at h1 h2 h3 ⊢
      refine ⟨h1.mono (by omega), fun v h0 h4 => Int.le_trans (h2 v h0 h4) (hle v h0 h4), Int.lt_of_le_of_lt (h2 m (by omega) hm) hd, fun i' b' hi' hp hd0 => ?_⟩
      have hr' := ((ij (k := b') hi').ed.rng hN.rng).2
      by_cases e : sOf ls ⟨i', b'⟩ < (m : Int) ∨ (sOf ls ⟨i', b'⟩ = (m : Int) /\ 2 * i' + b'.toNat < 2 * i + b.toNat)
      · have := hR i' b' hi' e hd0
        have := h2 _ hr'.1 hr'.2
        omega
      · have hb3 : b'.toNat <= 1 := by cases b' <;> decide
        have e2 : i' = i /\ b' = b := by
          have : 2 * i' + b'.toNat = 2 * i + b.toNat := by omega
          refine ⟨by omega, ?_⟩
          have : b'.toNat = b.toNat := by omega
          cases b <;> cases b' <;> simp_all
        obtain ⟨rfl, rfl⟩ := e2
        rw [hs] at hd0 ⊢
        have := hle m (by omega) hm
        omega
    · exact hy.elim
  · rintro i b ⟨s, s2⟩ hi hs ⟨hF, hle, hd, hR⟩
    refine ⟨hF.mono (by omega), hle, hd, hR.le hN.rng (fun v _ _ => Int.le_refl _) (fun i' b' hi' hp => ?_)⟩
    rcases hp with hp | ⟨hp, hp2⟩
    · exact .inl hp
    · have hb2 : b.toNat <= 1 := by cases b <;> decide
      have hb3 : b'.toNat <= 1 := by cases b' <;> decide
      refine .inr ⟨hp, ?_⟩
      rcases Nat.lt_or_ge (2 * i' + b'.toNat) (2 * i + b.toNat) with h | h
      · exact h
      · exfalso
        have : 2 * i' + b'.toNat = 2 * i + b.toNat := by omega
        have e1 : i' = i := by omega
        subst e1
        have e2 : b' = b := by
          have : b'.toNat = b.toNat := by omega
          cases b <;> cases b' <;> simp_all
        subst e2
        exact hs hp
  · rintro (s | x) hy
    · obtain ⟨h1, h2, h3, h4⟩ := hy
      refine ⟨h1.mono (by omega), h2, h4.le hN.rng (fun v _ _ => Int.le_refl _) (fun i b hi hp => ?_)⟩
      have hb2 : b.toNat <= 1 := by cases b <;> decide
      by_cases e : sOf ls ⟨i, b⟩ < (m : Int)
      · exact .inl e
      · exact .inr ⟨by omega, by omega⟩
    · exact hy.elim
/-- A row. -/
theorem fill_out (hN : NetOk n ls) (ha : 0 <= a /\ a < n) {can : List Int} {by_ : List Leg} (lc : can.length = 169) (lb : by_.length = 169) (h0 : ∀ v, 0 <= v -> v < n -> rw_ can a v = if v = a then 0 else 1099511627776) :
    (m_level_survey_fill n ls can by_ a).Out (fun r => FI ls n a can by_ 8640 r.1 r.2 /\ Cov ls a (rw_ r.1 a) (Int.toNat n)) := by
  have hm := hN.marks
  have hI : FI ls n a can by_ 0 can by_ := ⟨lc, lb, fun _ _ => ⟨rfl, rfl⟩, (BF.init ls n a).congr ha hN.rng h0, (ByOk.init ls n a (rb_ by_ a)).congr hN h0 (fun _ _ _ => rfl)⟩
  unfold m_level_survey_fill
  refine M.o_grd (gA2 (by omega) (by omega)) ?_
  refine M.o_bind (P := fun r => FI ls n a can by_ 8640 r.1 r.2 /\ Cov ls a (rw_ r.1 a) (Int.toNat n)) ?_ (fun y hy => M.o_pure hy)
  refine M.o_for (Int.toNat n) (fun r st => st.2.2 = r /\ FI ls n a can by_ (720 * r) st.1 st.2.1 /\ Cov ls a (rw_ st.1 a) r) ?_ ?_ (s := (can, by_, 0)) ⟨rfl, hI.mono (by simp), Cov.zero (by rw [h0 a ha.1 ha.2, if_pos rfl]; exact Int.le_refl _)⟩
  · rintro r ⟨c, y, r'⟩ hr ⟨rfl, hF, hC⟩
    dsimp only at hr hF hC
    simp only [m_level_survey_fill_b6]
    refine M.o_t (by simp; omega) ?_
    refine M.o_bind (P := fun q => FI ls n a can by_ (720 * (r' + 1)) q.1 q.2 /\ Cov ls a (rw_ q.1 a) (r' + 1)) ?_ ?_
    · refine M.o_for (Int.toNat n) (fun m st => st.1 = m /\ FI ls n a can by_ (720 * r' + 60 * m) st.2.1 st.2.2 /\ (∀ v, 0 <= v -> v < n -> rw_ st.2.1 a v <= rw_ c a v) /\ Rlx ls (rw_ c a) (rw_ st.2.1 a) (fun i b => sOf ls ⟨i, b⟩ < (m : Int))) ?_ ?_ (s := (0, c, y)) ⟨rfl, hF.mono (by simp), fun v _ _ => Int.le_refl _, fun i b hi hp _ => by have := ((ij (k := b) hi).ed.rng hN.rng).1; omega⟩
      · rintro m ⟨m', s, s2⟩ hmn ⟨rfl, hF, hle, hR⟩
        dsimp only at hmn hF hle hR
        simp only [m_level_survey_fill_b5]
        refine M.o_t (by simp; omega) (M.o_grd (gA2 (by omega) (by omega)) (M.o_if (fun hb => ?_) (fun hb => ?_)))
        · have hb := beq_iff_eq.1 hb
          refine M.o_grd (gA2 (by omega) (by omega)) (M.o_pure ⟨rfl, hF.mono (by omega), hle, fun i b hi hp hd => ?_⟩)
          by_cases e : sOf ls ⟨i, b⟩ < (m' : Int)
          · exact hR i b hi e hd
          · exfalso
            have e2 : sOf ls ⟨i, b⟩ = (m' : Int) := by omega
            have := hle m' (by omega) (by omega)
            rw [e2] at hd
            unfold rw_ at this hd
            rw [Int.toNat_natCast] at this hd
            omega
        · have hb := beq_eq_false_iff_ne.1 hb
          have htop := hF.bf.top m' (by omega) (by omega)
          have hd : rw_ s a m' < 1099511627776 := by
            unfold rw_ at htop ⊢
            rw [Int.toNat_natCast] at htop ⊢
            omega
          refine M.o_bindE (a := (m' : Int)) M.i_pure ?_
          refine M.o_bind (fill_mark hN ha (m := m') (by omega) (by omega) hF hle hR hd) ?_
          rintro (⟨t, t2⟩ | x) hy
          · refine M.o_grd (gA2 (by omega) (by omega)) (M.o_pure ⟨rfl, hy.1.mono (by omega), hy.2.1, hy.2.2.le hN.rng (fun v _ _ => Int.le_refl _) (fun i b _ hp => by omega)⟩)
          · exact hy.elim
      · rintro ⟨m', s, s2⟩ ⟨rfl, hF, hle, hR⟩
        dsimp only at hF hle hR
        simp only [m_level_survey_fill_b5]
        refine M.o_f (by simp; omega) (M.o_pure ⟨hF.mono (by omega), ?_⟩)
        refine hC.next hN (by omega) ha hle ?_
        refine Rlx.all (hR.le hN.rng (fun v _ _ => Int.le_refl _) (fun i b hi _ => ?_))
        have := ((ij (k := b) hi).ed.rng hN.rng).1
        omega
    · rintro ⟨q, q2⟩ ⟨h1, h2⟩
      exact M.o_grd (gA2 (by omega) (by omega)) (M.o_pure ⟨rfl, h1.mono (by omega), h2⟩)
  · rintro ⟨c, y, r'⟩ ⟨rfl, hF, hC⟩
    simp only [m_level_survey_fill_b6]
    exact M.o_f (by simp; omega) (M.o_pure ⟨hF.mono (by omega), hC⟩)
end Go.Proofs.Ytclhljenjphofaa
end
namespace Go.Nm
variable {ls : List Line} {n a : Int}
theorem Cov.congr {D D' : Int -> Int} {r : Nat} (hR : Rng n ls) (ha : 0 <= a /\ a < n) (h : Cov ls a D r) (e : ∀ v, 0 <= v -> v < n -> D' v = D v) : Cov ls a D' r := fun vs b c w hl => by
  have := w.rng hR ha b (by simp)
  rw [e b this.1 this.2]
  exact h vs b c w hl
def Agr (ls : List Line) : Prop := ∃ h, Feas ls h
structure Row (ls : List Line) (n a : Int) (D : Int -> Int) (by_ : Int -> Leg) : Prop where
  bf : BF ls n a D 8640
  cov : Cov ls a D (Int.toNat n)
  bo : ByOk ls n a D by_
theorem Row.congr {D D' : Int -> Int} {b b' : Int -> Leg} (hN : NetOk n ls) (ha : 0 <= a /\ a < n) (h : Row ls n a D b) (e : ∀ v, 0 <= v -> v < n -> D' v = D v) (e' : ∀ v, 0 <= v -> v < n -> b' v = b v) : Row ls n a D' b' :=
  ⟨h.bf.congr ha hN.rng e, h.cov.congr hN.rng ha e, h.bo.congr hN e e'⟩
structure Wkd (ls : List Line) (n : Int) (can : List Int) (by_ : List Leg) : Prop where
  lc : can.length = 169
  lb : by_.length = 169
  row : ∀ a, 0 <= a -> a < n -> Row ls n a (rw_ can a) (rb_ by_ a)
theorem Wkd.done {can : List Int} {by_ : List Leg} (hN : NetOk n ls) (hW : Wkd ls n can by_) (hA : Agr ls) (ha : 0 <= a /\ a < n) : Done ls n a (rw_ can a) := by
  obtain ⟨h, hF⟩ := hA
  have hr := hW.row a ha.1 ha.2
  have hm := hN.marks
  exact hr.bf.done (N := Int.toNat n) hN hF (by omega) ha hr.cov (by omega)
def Rx (ls : List Line) (can : List Int) (a : Int) (x : Leg) : Prop := rw_ can a (sOf ls x) < 1099511627776 /\ rw_ can a (sOf ls x) + rOf ls x < rw_ can a (gOf ls x)
theorem Wkd.agr_no {can : List Int} {by_ : List Leg} (hN : NetOk n ls) (hW : Wkd ls n can by_) (hA : Agr ls) (ha : 0 <= a /\ a < n) {x : Leg} (hx : LegOk ls x) : ¬ Rx ls can a x := by
  rintro ⟨h1, h2⟩
  have hD := hW.done hN hA ha
  have hr := hx.ed.rng hN.rng
  have d1 := hD.dist _ hr.1.1 hr.1.2 h1
  have ht : Tied ls a (gOf ls x) := d1.tied.trans (.ed hx.ed)
  have d2 := hD.dist _ hr.2.1 hr.2.2 (hD.tied _ hr.2.1 hr.2.2 ht)
  have := d1.step hx.ed d2
  omega
theorem Wkd.agr_zero {can : List Int} {by_ : List Leg} (hN : NetOk n ls) (hW : Wkd ls n can by_) (hA : Agr ls) (ha : 0 <= a /\ a < n) : rw_ can a a = 0 := by
  have hD := hW.done hN hA ha
  have h1 := (hW.row a ha.1 ha.2).bf.own
  obtain ⟨h, hF⟩ := hA
  exact (hD.dist a ha.1 ha.2 (by omega)).uniq (.self hF)
theorem Wkd.agr_of {can : List Int} {by_ : List Leg} (hN : NetOk n ls) (hW : Wkd ls n can by_) (h1 : ∀ a, 0 <= a -> a < n -> ∀ x, LegOk ls x -> ¬ Rx ls can a x) (h2 : ∀ a, 0 <= a -> a < n -> ¬ rw_ can a a < 0) :
    ∃ f : Int -> Int, (∀ v, 0 <= v -> v < n -> (0 <= f v /\ f v < n) /\ rw_ can (f v) v < 1099511627776 /\ ∀ u, 0 <= u -> u < f v -> ¬ rw_ can u v < 1099511627776) /\ Feas ls (fun v => rw_ can (f v) v) := by
  have hS : Tight ls n (rw_ can) := by
    refine ⟨fun a m g e h0 h3 he hd => ?_, fun a h0 h3 => ?_⟩
    · obtain ⟨i, k, hi, rfl, rfl, rfl⟩ := leg_of he
      have := h1 a h0 h3 ⟨i, k⟩ ⟨by show (0 : Int) <= (i : Int); omega, by show (i : Int) < _; omega⟩
      unfold Rx at this
      omega
    · have := h2 a h0 h3
      have := (hW.row a h0 h3).bf.own
      omega
  have hex : ∀ v, 0 <= v -> v < n -> ∃ u : Nat, ((u : Int) < n /\ rw_ can u v < 1099511627776) /\ ∀ k : Nat, ((k : Int) < n /\ rw_ can k v < 1099511627776) -> u <= k := by
    intro v h0 h3
    refine least_nat ⟨v.toNat, by omega, ?_⟩
    rw [Int.toNat_of_nonneg h0, hS.zero v h0 h3]
    omega
  refine ⟨fun v => if h : 0 <= v /\ v < n then (((hex v h.1 h.2).choose : Nat) : Int) else 0, ?_, ?_⟩
  · intro v h0 h3
    dsimp only
    rw [dif_pos ⟨h0, h3⟩]
    obtain ⟨⟨g1, g2⟩, g3⟩ := (hex v h0 h3).choose_spec
    refine ⟨⟨by omega, g1⟩, g2, fun u hu0 hu1 hu => ?_⟩
    have := g3 u.toNat (by rw [Int.toNat_of_nonneg hu0]; exact ⟨by omega, hu⟩)
    omega
  · refine hS.feas hN (fun a v h0 h3 h4 h5 => (hW.row a h0 h3).bf.top v h4 h5) _ ?_ (fun a m g e h0 h3 he hd => ?_)
    · intro v h0 h3
      try dsimp only
      rw [dif_pos ⟨h0, h3⟩]
      obtain ⟨⟨g1, g2⟩, g3⟩ := (hex v h0 h3).choose_spec
      refine ⟨⟨by omega, g1⟩, g2, fun u hu0 hu1 hu => ?_⟩
      have := g3 u.toNat (by rw [Int.toNat_of_nonneg hu0]; exact ⟨by omega, hu⟩)
      omega
    · have hr := he.rng hN.rng
      have := (hW.row a h0 h3).bf.up m hr.1.1 hr.1.2 hd
      have := hN.ed _ _ _ he
      omega
end Go.Nm
section
set_option maxRecDepth 100000
set_option maxHeartbeats 16000000
namespace Go.Proofs.Ytclhljenjphofaa
open Go Go.Nm
variable {ls : List Line} {n a : Int}
theorem rw_nat (can : List Int) (i j : Nat) : rw_ can i j = can.getD (i * 13 + j) 0 := by unfold rw_; rw [Int.toNat_natCast, Int.toNat_natCast]
theorem worked_out (hN : NetOk n ls) : (m_level_worked n ls).Out (fun r => r.1 = n /\ Wkd ls n r.2.1 r.2.2) := by
  have hm := hN.marks
  unfold m_level_worked
  refine M.o_bind (P := fun c => c.length = 169 /\ ∀ i j : Nat, (i : Int) < n -> (j : Int) < n -> c.getD (i * 13 + j) 0 = if j = i then 0 else 1099511627776) ?_ ?_
  · refine M.o_for (Int.toNat n) (fun i st => st.2 = i /\ st.1.length = 169 /\ ∀ i' j : Nat, i' < i -> (j : Int) < n -> st.1.getD (i' * 13 + j) 0 = if j = i' then 0 else 1099511627776) ?_ ?_ (s := (List.replicate 169 0, 0)) ⟨rfl, List.length_replicate, fun i' j h => by omega⟩
    · rintro i ⟨c, i0⟩ hi ⟨rfl, hl, hc⟩
      dsimp only at hi hl hc
      simp only [m_level_worked_b2]
      refine M.o_t (by simp; omega) ?_
      refine M.o_bind (P := fun d => d.length = 169 /\ (∀ i' j : Nat, i' < i0 -> (j : Int) < n -> d.getD (i' * 13 + j) 0 = if j = i' then 0 else 1099511627776) /\ ∀ j : Nat, (j : Int) < n -> d.getD (i0 * 13 + j) 0 = 1099511627776) ?_ ?_
      · refine M.o_for (Int.toNat n) (fun j st => st.2 = j /\ st.1.length = 169 /\ (∀ i' j : Nat, i' < i0 -> (j : Int) < n -> st.1.getD (i' * 13 + j) 0 = if j = i' then 0 else 1099511627776) /\ ∀ j' : Nat, j' < j -> st.1.getD (i0 * 13 + j') 0 = 1099511627776) ?_ ?_ (s := (c, 0)) ⟨rfl, hl, hc, fun j h => by omega⟩
        · rintro j ⟨d, j0⟩ hj ⟨rfl, hl, hd, he⟩
          dsimp only at hj hl hd he
          simp only [m_level_worked_b1]
          refine M.o_t (by simp; omega) (M.o_grd (gA2 (by omega) (by omega)) (M.o_grd (gA2 (by omega) (by omega)) (M.o_grd (gA2 (by omega) (by omega)) (M.o_pure ⟨rfl, by simpa using hl, fun i' j h1 h2 => ?_, fun j' h1 => ?_⟩))))
          · dsimp only
            rw [gset _ _ _ _ _ (by omega), if_neg (by omega)]
            exact hd i' j h1 h2
          · dsimp only
            rw [gset _ _ _ _ _ (by omega)]
            by_cases e : j' = j0
            · rw [e, if_pos rfl]
            · rw [if_neg (by omega)]; exact he j' (by omega)
        · rintro ⟨d, j0⟩ ⟨rfl, hl, hd, he⟩
          simp only [m_level_worked_b1]
          exact M.o_f (by simp; omega) (M.o_pure ⟨hl, hd, fun j h => he j (by omega)⟩)
      · rintro d ⟨hl, hd, he⟩
        refine M.o_grd (gA2 (by omega) (by omega)) (M.o_grd (gA2 (by omega) (by omega)) (M.o_pure ⟨rfl, by simpa using hl, fun i' j h1 h2 => ?_⟩))
        dsimp only
        rw [gset _ _ _ _ _ (by omega)]
        by_cases e : i' = i0
        · subst e
          by_cases e2 : j = i'
          · subst e2; rw [if_pos rfl, if_pos rfl]
          · rw [if_neg (by omega), if_neg e2]; exact he j h2
        · rw [if_neg (by omega)]; exact hd i' j (by omega) h2
    · rintro ⟨c, i0⟩ ⟨rfl, hl, hc⟩
      simp only [m_level_worked_b2]
      exact M.o_f (by simp; omega) (M.o_pure ⟨hl, fun i j h1 h2 => hc i j (by omega) h2⟩)
  · rintro c ⟨hl, hc⟩
    refine M.o_bind (P := fun r => Wkd ls n r.1 r.2) ?_ (fun r hr => M.o_pure ⟨rfl, hr⟩)
    refine M.o_for (Int.toNat n) (fun i st => st.2.2 = i /\ st.1.length = 169 /\ st.2.1.length = 169 /\ (∀ a : Nat, a < i -> Row ls n a (rw_ st.1 a) (rb_ st.2.1 a)) /\ ∀ a j : Nat, i <= a -> (a : Int) < n -> (j : Int) < n -> st.1.getD (a * 13 + j) 0 = if j = a then 0 else 1099511627776) ?_ ?_ (s := (c, List.replicate 169 default, 0)) ⟨rfl, hl, List.length_replicate, fun a h => by omega, fun a j _ h1 h2 => hc a j h1 h2⟩
    · rintro i ⟨c, y, i0⟩ hi ⟨rfl, hl, hy, hd, hc⟩
      dsimp only at hi hl hy hd hc
      simp only [m_level_worked_b3]
      refine M.o_t (by simp; omega) ?_
      refine M.o_bind (fill_out hN (a := (i0 : Int)) (by omega) hl hy ?_) ?_
      · intro v h0 h1
        have := hc i0 v.toNat (Nat.le_refl _) (by omega) (by omega)
        unfold rw_
        rw [Int.toNat_natCast, this]
        by_cases e : v = (i0 : Int)
        · rw [if_pos e, if_pos (by omega)]
        · rw [if_neg e, if_neg (by omega)]
      · rintro ⟨q, q2⟩ ⟨hF, hC⟩
        refine M.o_grd (gA2 (by omega) (by omega)) (M.o_pure ⟨rfl, hF.lc, hF.lb, fun a h => ?_, fun a j h1 h2 h3 => ?_⟩)
        · by_cases e : a = i0
          · subst e; exact ⟨hF.bf, hC, hF.bo⟩
          · refine (hd a (by omega)).congr hN (by omega) (fun v h0 h1 => ?_) (fun v h0 h1 => ?_)
            · have := (hF.oth (a * 13 + v.toNat) (by rw [Int.toNat_natCast]; omega)).1
              unfold rw_; rw [Int.toNat_natCast]; exact this
            · have := (hF.oth (a * 13 + v.toNat) (by rw [Int.toNat_natCast]; omega)).2
              unfold rb_; rw [Int.toNat_natCast]; exact this
        · have := (hF.oth (a * 13 + j) (by rw [Int.toNat_natCast]; omega)).1
          dsimp only
          rw [this]
          exact hc a j (by omega) h2 h3
    · rintro ⟨c, y, i0⟩ ⟨rfl, hl, hy, hd, hc⟩
      simp only [m_level_worked_b3]
      refine M.o_f (by simp; omega) (M.o_pure ⟨hl, hy, fun a h0 h1 => ?_⟩)
      have := hd a.toNat (by omega)
      rwa [Int.toNat_of_nonneg h0] at this
theorem open_out (hN : NetOk n ls) {can : List Int} {by_ : List Leg} (hW : Wkd ls n can by_) : (m_level_survey_open n ls can by_).Out (fun b => b = true ↔ ¬ Agr ls) := by
  have hm := hN.marks
  have leg : ∀ (m i : Nat) (b : Bool), i < ls.length -> sOf ls ⟨i, b⟩ = (m : Int) -> (m_level_survey_open_b5 n ls can m () ⟨i, b⟩).Out (fun r => match r with | .inl _ => ∀ a, 0 <= a -> a < n -> ¬ Rx ls can a ⟨i, b⟩ | .inr _ => ∃ a, (0 <= a /\ a < n) /\ Rx ls can a ⟨i, b⟩) := by
    intro m i b hi hs
    have hx : LegOk ls ⟨i, b⟩ := ij hi
    have hr := hx.ed.rng hN.rng
    have hc := hN.ed _ _ _ hx.ed
    simp only [m_level_survey_open_b5]
    refine M.o_bind (P := fun y => match y with | .inl _ => ∃ a, (0 <= a /\ a < n) /\ Rx ls can a ⟨i, b⟩ | .inr _ => ∀ a, 0 <= a -> a < n -> ¬ Rx ls can a ⟨i, b⟩) ?_ (fun y hy => by rcases y with y | y <;> exact M.o_pure hy)
    refine M.o_for (Int.toNat n) (fun k s => s = k /\ ∀ a : Nat, a < k -> ¬ Rx ls can a ⟨i, b⟩) ?_ ?_ (s := 0) ⟨rfl, fun a h => by omega⟩
    · rintro k s hk ⟨rfl, hJ⟩
      have e0 : rw_ can s (sOf ls ⟨i, b⟩) = can.getD (s * 13 + m) 0 := by rw [hs]; exact rw_nat can s m
      have e1 : rw_ can s (gOf ls ⟨i, b⟩) = can.getD (s * 13 + Int.toNat (gOf ls ⟨i, b⟩)) 0 := by unfold rw_; rw [Int.toNat_natCast]
      have hlo := (hW.row s (by omega) (by omega)).bf.low (sOf ls ⟨i, b⟩) hr.1.1 hr.1.2
      rw [e0] at hlo
      simp only [m_level_survey_open_b4]
      refine M.o_t (by simp; omega) (M.o_grd (gA2 (by omega) (by omega)) (M.o_grd (gA2 (by omega) (by omega)) ?_))
      by_cases hd : can.getD (s * 13 + m) 0 < 1099511627776
      · have hd' : decide (can.getD (s * 13 + m) 0 < 1099511627776) = true := decide_eq_true hd
        rw [hd']
        refine M.o_bindE (a := rOf ls ⟨i, b⟩) (M.i_opt (fun _ => rise_ends hN hx) (fun h => by cases h)) (M.o_grd (gOr2 (by omega) (by omega)) (M.o_bindE (a := gOf ls ⟨i, b⟩) (M.i_opt (fun _ => goal_ends hx) (fun h => by cases h)) (M.o_grd (gOr2 (by omega) (by omega)) ?_)))
        by_cases h2 : can.getD (s * 13 + m) 0 + rOf ls ⟨i, b⟩ < can.getD (s * 13 + Int.toNat (gOf ls ⟨i, b⟩)) 0
        · exact M.o_t (by rw [Bool.true_and]; exact decide_eq_true h2) (M.o_pure ⟨s, by omega, by unfold Rx; rw [e0, e1]; exact ⟨hd, h2⟩⟩)
        · refine M.o_f (by rw [Bool.true_and]; exact decide_eq_false h2) (M.o_grd (gA2 (by omega) (by omega)) (M.o_pure ⟨rfl, fun a h => ?_⟩))
          by_cases e : a = s
          · rw [e]; unfold Rx; rw [e0, e1]; exact fun h => h2 h.2
          · exact hJ a (by omega)
      · have hd' : decide (can.getD (s * 13 + m) 0 < 1099511627776) = false := decide_eq_false hd
        rw [hd']
        refine M.o_bindE (a := 0) (M.i_opt (fun h => by cases h) (fun _ => rfl)) (M.o_grd (by simp) (M.o_bindE (a := 0) (M.i_opt (fun h => by cases h) (fun _ => rfl)) (M.o_grd (by simp) ?_)))
        refine M.o_f (by simp) (M.o_grd (gA2 (by omega) (by omega)) (M.o_pure ⟨rfl, fun a h => ?_⟩))
        by_cases e : a = s
        · rw [e]; unfold Rx; rw [e0]; exact fun h => hd h.1
        · exact hJ a (by omega)
    · rintro s ⟨rfl, hJ⟩
      simp only [m_level_survey_open_b4]
      refine M.o_f (by simp; omega) (M.o_pure fun a h0 h1 => ?_)
      have := hJ a.toNat (by omega)
      rwa [Int.toNat_of_nonneg h0] at this
  have no_of : (∃ x, LegOk ls x /\ ∃ a, (0 <= a /\ a < n) /\ Rx ls can a x) -> ¬ Agr ls := by
    rintro ⟨x, hx, a, ha, hR⟩ hA
    exact hW.agr_no hN hA ha hx hR
  unfold m_level_survey_open
  refine M.o_bind (P := fun y => match y with | .inl _ => ¬ Agr ls | .inr _ => Agr ls) ?_ (fun y hy => by
    rcases y with y | y
    · exact M.o_pure ⟨fun _ => hy, fun _ => rfl⟩
    · exact M.o_pure ⟨fun h => (by cases h), fun h => absurd hy h⟩)
  refine M.o_for (Int.toNat n) (fun m s => s = m /\ (∀ i b, i < ls.length -> sOf ls ⟨i, b⟩ < (m : Int) -> ∀ a, 0 <= a -> a < n -> ¬ Rx ls can a ⟨i, b⟩) /\ ∀ a : Nat, a < m -> ¬ rw_ can a a < 0) ?_ ?_ (s := 0) ⟨rfl, fun i b hi h => by have := ((ij (k := b) hi).ed.rng hN.rng).1; omega, fun a h => by omega⟩
  · rintro m s hmn ⟨rfl, h1, h2⟩
    simp only [m_level_survey_open_b6]
    refine M.o_t (by simp; omega) (M.o_bindE (a := (s : Int)) M.i_pure ?_)
    refine M.o_bind (legs_out (m := (s : Int)) (fun idx _ => ∀ i b, i < ls.length -> sOf ls ⟨i, b⟩ = (s : Int) -> 2 * i + b.toNat < idx -> ∀ a, 0 <= a -> a < n -> ¬ Rx ls can a ⟨i, b⟩) (fun _ => ¬ Agr ls) ?_ ?_ (s := ()) (fun i b _ _ h => by omega)) ?_
    · intro i b _ hi hs hJ
      refine M.o_mono (leg s i b hi hs) ?_
      rintro (x | x) hx
      · intro i' b' hi' hs' hlt
        by_cases e : 2 * i' + b'.toNat < 2 * i + b.toNat
        · exact hJ i' b' hi' hs' e
        · have hb2 : b.toNat <= 1 := by cases b <;> decide
          have hb3 : b'.toNat <= 1 := by cases b' <;> decide
          have e1 : i' = i := by omega
          subst e1
          have e2 : b' = b := by
            have : b'.toNat = b.toNat := by omega
            cases b <;> cases b' <;> simp_all
          subst e2
          exact hx
      · exact no_of ⟨_, ij hi, hx⟩
    · intro i b _ hi hs hJ i' b' hi' hs' hlt
      refine hJ i' b' hi' hs' ?_
      have hb2 : b.toNat <= 1 := by cases b <;> decide
      have hb3 : b'.toNat <= 1 := by cases b' <;> decide
      rcases Nat.lt_or_ge (2 * i' + b'.toNat) (2 * i + b.toNat) with h | h
      · exact h
      · exfalso
        have e1 : i' = i := by omega
        subst e1
        have e2 : b' = b := by
          have : b'.toNat = b.toNat := by omega
          cases b <;> cases b' <;> simp_all
        subst e2
        exact hs hs'
    · rintro (x | x) hx
      · refine M.o_grd (gA2 (by omega) (by omega)) ?_
        by_cases hd : rw_ can s s < 0
        · refine M.o_t (decide_eq_true (by rw [← rw_nat]; exact hd)) (M.o_pure fun hA => ?_)
          have := hW.agr_zero hN hA (a := (s : Int)) (by omega)
          omega
        · refine M.o_f (decide_eq_false (by rw [← rw_nat]; exact hd)) (M.o_grd (gA2 (by omega) (by omega)) (M.o_pure ⟨rfl, fun i b hi h => ?_, fun a h => ?_⟩))
          · by_cases e : sOf ls ⟨i, b⟩ < (s : Int)
            · exact h1 i b hi e
            · have hb2 : b.toNat <= 1 := by cases b <;> decide
              exact hx i b hi (by omega) (by omega)
          · by_cases e : a = s
            · rw [e]; exact hd
            · exact h2 a (by omega)
      · exact M.o_pure hx
  · rintro s ⟨rfl, h1, h2⟩
    simp only [m_level_survey_open_b6]
    refine M.o_f (by simp; omega) (M.o_pure ?_)
    obtain ⟨f, _, hF⟩ := hW.agr_of hN (fun a h0 h3 x hx => by
      obtain ⟨l, k⟩ := x
      have hx' := hx
      obtain ⟨l0, l1⟩ := hx
      dsimp only at l0 l1
      have e : l = ((l.toNat : Nat) : Int) := by omega
      rw [e] at hx' ⊢
      exact h1 l.toNat k (by omega) (by have := (hx'.ed.rng hN.rng).1; omega) a h0 h3) (fun a h0 h3 => by
      have := h2 a.toNat (by omega)
      rwa [Int.toNat_of_nonneg h0] at this)
    exact ⟨_, hF⟩
end Go.Proofs.Ytclhljenjphofaa
end
section
set_option maxRecDepth 100000
set_option maxHeartbeats 16000000
namespace Go.Nm
/-- A line, as it may be in a net. -/
def okLine (n : Int) (l : Line) : Bool := (((((decide (0 <= l.src) && decide (l.src <= n - 1)) && (decide (0 <= l.dst) && decide (l.dst <= n - 1))) && (l.src != l.dst)) && (decide (0 <= l.day) && decide (l.day <= 40000))) && (decide (-1000000 <= l.rise) && decide (l.rise <= 1000000))) && (decide (0 <= l.err) && decide (l.err <= 10000))
def chkE (n : Int) (ls : List Line) : Int := bif (!(decide (1 <= n) && decide (n <= 12))) || decide (30 < (ls.length : Int)) then 3 else bif !(ls.all (okLine n)) then 20 else 0
theorem okLine_iff {n : Int} {l : Line} : okLine n l = true ↔ ((((((0 <= l.src /\ l.src <= n - 1) /\ (0 <= l.dst /\ l.dst <= n - 1)) /\ l.src ≠ l.dst) /\ (0 <= l.day /\ l.day <= 40000)) /\ (-1000000 <= l.rise /\ l.rise <= 1000000)) /\ (0 <= l.err /\ l.err <= 10000)) := by
  unfold okLine
  simp only [Bool.and_eq_true, decide_eq_true_eq, bne_iff_ne, ne_eq]
theorem chk_ok {n : Int} {ls : List Line} : chkE n ls = 0 ↔ NetOk n ls := by
  unfold chkE
  cases h1 : (!(decide (1 <= n) && decide (n <= 12))) || decide (30 < (ls.length : Int)) with
  | true =>
    simp only [Bool.or_eq_true, Bool.not_eq_true', Bool.and_eq_false_iff, decide_eq_false_iff_not, decide_eq_true_eq] at h1
    refine ⟨fun h => by simp at h, fun h => ?_⟩
    have := h.marks
    have := h.few
    omega
  | false =>
    simp only [Bool.or_eq_false_iff, Bool.not_eq_false', Bool.and_eq_true, decide_eq_false_iff_not, decide_eq_true_eq] at h1
    cases h2 : ls.all (okLine n) with
    | true =>
      rw [List.all_eq_true] at h2
      have h3 := fun l hl => okLine_iff.1 (h2 l hl)
      exact ⟨fun _ => ⟨h1.1, by omega, fun l hl => by have := h3 l hl; omega, fun l hl => (h3 l hl).1.1.1.2, fun l hl => (h3 l hl).1.1.2, fun l hl => (h3 l hl).1.2, fun l hl => (h3 l hl).2⟩, fun _ => rfl⟩
    | false =>
      rw [List.all_eq_false] at h2
      obtain ⟨l, hl, h3⟩ := h2
      refine ⟨fun h => by simp at h, fun h => absurd (okLine_iff.2 ?_) h3⟩
      have := h.rng l hl
      exact ⟨⟨⟨⟨⟨⟨this.1.1, by omega⟩, ⟨this.2.1, by omega⟩⟩, h.ne l hl⟩, h.day l hl⟩, h.rise l hl⟩, h.err l hl⟩
/-- What is said of two marks. -/
structure Btw (ls : List Line) (a b : Int) (r : Int × Int × Int) : Prop where
  no : ¬ Agr ls -> r = (0, 0, 7)
  far : Agr ls -> ¬ Tied ls a b -> r = (0, 0, 5)
  yes : Agr ls -> Tied ls a b -> r.2.2 = 0 /\ IsDist ls a b r.2.1 /\ IsDist ls b a (-r.1)
end Go.Nm
namespace Go.Proofs.Ytclhljenjphofaa
open Go Go.Nm
variable {ls : List Line} {n a : Int}
theorem in_ends (x lo hi : Int) : (m_level_in x lo hi).Ends (decide (lo <= x) && decide (x <= hi)) := M.i_pure
theorem index_line {f : Line -> M Bool} {q : Line -> Bool} (h : ∀ x, x ∈ ls -> (f x).Ends (q x)) : (m_slices_IndexFunc_level_Line ls f).Out (fun r => decide (0 <= r) = ls.any q) := by
  unfold m_slices_IndexFunc_level_Line
  refine M.o_bind (P := fun y => match y with | .inl r => decide (0 <= r) = ls.any q | .inr _ => ls.any q = false) ?_ (fun y hy => by
    rcases y with y | y
    · exact M.o_pure hy
    · exact M.o_pure (by rw [hy]; rfl))
  refine M.o_for ls.length (fun i s => s = i /\ (ls.take i).any q = false) ?_ ?_ (s := 0) ⟨rfl, by simp⟩
  · rintro i s hi ⟨rfl, hJ⟩
    simp only [m_slices_IndexFunc_level_Line_b0]
    refine M.o_t (by simpa using hi) (M.o_grd (by simpa using hi) (M.o_bindE (h (ls.getD s default) (by rw [getD_el ls hi]; exact List.getElem_mem hi)) (M.o_if (fun hb => ?_) (fun hb => ?_))))
    · refine M.o_pure ?_
      dsimp only
      rw [show ls.any q = true from List.any_eq_true.2 ⟨_, by rw [getD_el ls hi]; exact List.getElem_mem hi, hb⟩]
      exact decide_eq_true (by omega)
    · refine M.o_pure ⟨rfl, ?_⟩
      rw [← take_succ_D ls s hi default, List.any_append, hJ]
      simp only [List.any_cons, List.any_nil, Bool.or_false, Bool.false_or]
      exact hb
  · rintro s ⟨rfl, hJ⟩
    simp only [m_slices_IndexFunc_level_Line_b0]
    rw [List.take_length] at hJ
    exact M.o_f (by simp) (M.o_pure hJ)
theorem every_line {so : Line -> M Bool} {p : Line -> Bool} (h : ∀ x, x ∈ ls -> (so x).Ends (p x)) : (m_level_every_level_Line ls so).Ends (ls.all p) := by
  unfold m_level_every_level_Line m_slices_ContainsFunc_level_Line
  obtain ⟨r, h1, h2⟩ := index_line (ls := ls) (f := fun x => m_level_every_level_Line__1 x so) (q := fun x => !(p x)) (fun x hx => by unfold m_level_every_level_Line__1; exact M.i_bind (h x hx) M.i_pure)
  refine M.i_bind (M.i_bind h1 M.i_pure) ?_
  rw [h2, List.any_eq_not_all_not]
  simp only [Bool.not_not]
  exact M.i_pure
theorem check_ends (n : Int) (ls : List Line) : (m_level_Check n ls).Ends (chkE n ls) := by
  unfold m_level_Check chkE
  refine M.i_bind (in_ends _ _ _) (M.i_if (fun hb => ?_) (fun hb => ?_))
  · rw [hb]; exact M.i_pure
  · rw [hb]
    simp only [Bool.or_eq_false_iff, Bool.not_eq_false', Bool.and_eq_true, decide_eq_false_iff_not, decide_eq_true_eq] at hb
    refine M.i_bind (every_line (p := okLine n) fun l _ => ?_) (M.i_if (fun h2 => by rw [h2]; exact M.i_pure) (fun h2 => by rw [h2]; exact M.i_pure))
    have mk : ∀ x : Int, (m_level_Check_1 x n ls).Ends (decide (0 <= x) && decide (x <= n - 1)) := fun x => by
      unfold m_level_Check_1
      exact M.i_grd (gA2 (by omega) (by omega)) (M.i_bind (in_ends _ _ _) M.i_pure)
    unfold m_level_Check_2
    have opt : ∀ {c : Bool} {m : M Bool} {b : Bool}, m.Ends b -> (M.opt c m false).Ends (c && b) := fun {c m b} h => M.i_opt (fun e => by rw [e, Bool.true_and]; exact h) (fun e => by rw [e]; rfl)
    refine M.i_bind (mk l.src) (M.i_bind (opt (mk l.dst)) (M.i_bind (opt (in_ends _ _ _)) (M.i_bind (opt (in_ends _ _ _)) (M.i_bind (opt (in_ends _ _ _)) ?_))))
    have e : okLine n l = _ := rfl
    unfold okLine
    generalize (decide (0 <= l.src) && decide (l.src <= n - 1)) = b1
    generalize (decide (0 <= l.dst) && decide (l.dst <= n - 1)) = b2
    generalize (l.src != l.dst) = b3
    generalize (decide (0 <= l.day) && decide (l.day <= 40000)) = b4
    generalize (decide (-1000000 <= l.rise) && decide (l.rise <= 1000000)) = b5
    generalize (decide (0 <= l.err) && decide (l.err <= 10000)) = b6
    cases b1 <;> cases b2 <;> cases b3 <;> cases b4 <;> cases b5 <;> cases b6 <;> exact M.i_pure
theorem opened_out (hN : NetOk n ls) : (m_level_opened n ls).Out (fun y => ∃ can by_, y = .inr (n, can, by_, 0) /\ Wkd ls n can by_) := by
  unfold m_level_opened
  refine M.o_bindE (check_ends n ls) ?_
  rw [chk_ok.2 hN]
  refine M.o_f (by decide) (M.o_bind (worked_out hN) ?_)
  rintro ⟨r0, c, b⟩ ⟨rfl, hW⟩
  exact M.o_pure ⟨c, b, rfl, hW⟩
theorem agrees_out (hN : NetOk n ls) : (m_level_Agrees n ls).Out (fun r => r.2 = 0 /\ (r.1 = true ↔ Agr ls)) := by
  unfold m_level_Agrees
  refine M.o_bind (opened_out hN) ?_
  rintro y ⟨c, b, rfl, hW⟩
  dsimp only
  refine M.o_f (by decide) (M.o_bind (open_out hN hW) ?_)
  intro r hr
  refine M.o_pure ⟨rfl, ?_⟩
  dsimp only
  rw [Bool.not_eq_true']
  constructor
  · intro h
    refine Classical.byContradiction fun hc => ?_
    rw [hr.2 hc] at h
    cases h
  · intro h
    cases hc : r with
    | false => rfl
    | true => exact absurd h (hr.1 hc)
theorem between_out (hN : NetOk n ls) {f t : Int} (hf : 0 <= f /\ f < n) (ht : 0 <= t /\ t < n) : (m_level_Between n ls f t).Out (Btw ls f t) := by
  have hm := hN.marks
  unfold m_level_Between
  refine M.o_bind (P := fun y => ∃ can by_ e, y = .inr (n, can, by_, e) /\ Wkd ls n can by_ /\ (¬ Agr ls -> e = 7) /\ (Agr ls -> e = if rw_ can f t = 1099511627776 then 5 else 0)) ?_ ?_
  · unfold m_level_asked
    refine M.o_bindE (check_ends n ls) ?_
    rw [chk_ok.2 hN]
    refine M.o_f (by decide) (M.o_grd (gA2 (by omega) (by omega)) (M.o_bindE (in_ends _ _ _) ?_))
    rw [show (decide (0 <= f) && decide (f <= n - 1)) = true from gA2 (by omega) (by omega)]
    refine M.o_bindE (a := true) (M.i_opt (fun _ => by rw [← show (decide (0 <= t) && decide (t <= n - 1)) = true from gA2 (by omega) (by omega)]; exact in_ends _ _ _) (fun h => by cases h)) ?_
    refine M.o_f (by simp) ?_
    refine M.o_bind (P := fun y => ∃ can by_ e, y = .inr (n, can, by_, e) /\ Wkd ls n can by_ /\ (¬ Agr ls -> e = 7) /\ (Agr ls -> e = 0)) ?_ ?_
    · unfold m_level_agreed
      refine M.o_bind (opened_out hN) ?_
      rintro y ⟨c, b, rfl, hW⟩
      dsimp only
      refine M.o_bind (P := fun r => r = true ↔ ¬ Agr ls) (by
        obtain ⟨r, h1, h2⟩ := open_out hN hW
        exact ⟨r, M.i_opt (fun _ => h1) (fun h => by simp at h), h2⟩) ?_
      intro r hr
      cases r with
      | true => exact M.o_t rfl (M.o_pure ⟨c, b, 7, rfl, hW, fun _ => rfl, fun h => absurd h (hr.1 rfl)⟩)
      | false => exact M.o_f rfl (M.o_pure ⟨c, b, 0, rfl, hW, fun h => absurd (hr.2 h) (by decide), fun _ => rfl⟩)
    · rintro y ⟨c, b, e, rfl, hW, h1, h2⟩
      dsimp only
      refine M.o_grd (gOr2 (by omega) (by omega)) (M.o_grd (gOr2 (by omega) (by omega)) ?_)
      by_cases hA : Agr ls
      · have := h2 hA
        subst this
        by_cases e : rw_ c f t = 1099511627776
        · exact M.o_t (by unfold rw_ at e; rw [e]; rfl) (M.o_pure ⟨c, b, 5, rfl, hW, fun h => absurd hA h, fun _ => by rw [if_pos e]⟩)
        · exact M.o_f (by unfold rw_ at e; simpa using e) (M.o_pure ⟨c, b, 0, rfl, hW, fun h => absurd hA h, fun _ => by rw [if_neg e]⟩)
      · have := h1 hA
        subst this
        exact M.o_f (by simp) (M.o_pure ⟨c, b, 7, rfl, hW, fun _ => rfl, fun h => absurd h hA⟩)
  · rintro y ⟨c, b, e, rfl, hW, h1, h2⟩
    dsimp only
    by_cases hA : Agr ls
    · have hD := hW.done hN hA hf
      have hD2 := hW.done hN hA ht
      by_cases e5 : rw_ c f t = 1099511627776
      · have := h2 hA
        rw [if_pos e5] at this
        subst this
        refine M.o_t (by decide) (M.o_pure ⟨fun h => absurd hA h, fun _ _ => rfl, fun _ hT => ?_⟩)
        have := hD.tied t ht.1 ht.2 hT
        omega
      · have := h2 hA
        rw [if_neg e5] at this
        subst this
        have hlt := hD.far t ht.1 ht.2 e5
        have d1 := hD.dist t ht.1 ht.2 hlt
        have hlt2 := hD2.tied f hf.1 hf.2 d1.tied.symm
        have d2 := hD2.dist f hf.1 hf.2 hlt2
        have b1 := (hW.row t ht.1 ht.2).bf.low f hf.1 hf.2
        unfold rw_ at hlt2 b1
        refine M.o_f (by decide) (M.o_grd (gA2 (by omega) (by omega)) (M.o_grd (gA2 (by omega) (by omega)) (M.o_grd (gA2 (by omega) (by omega)) (M.o_pure ⟨fun h => absurd hA h, fun _ h => absurd d1.tied h, fun _ _ => ⟨rfl, d1, ?_⟩⟩))))
        dsimp only
        rw [Int.neg_neg]
        exact d2
    · have := h1 hA
      subst this
      exact M.o_t (by decide) (M.o_pure ⟨fun _ => rfl, fun h => absurd h hA, fun h => absurd h hA⟩)
end Go.Proofs.Ytclhljenjphofaa
end
namespace Go.Nm
def hOf (hs : List Int) (v : Int) : Int := hs.getD (Int.toNat v) 0
structure LnOk (n : Int) (hs : List Int) (l : Line) : Prop where
  src : 0 <= l.src /\ l.src < n
  dst : 0 <= l.dst /\ l.dst < n
  ne : l.src ≠ l.dst
  day : 0 <= l.day /\ l.day < 30
  err : 0 <= l.err /\ l.err <= 8
  lo : l.rise - l.err <= hOf hs l.dst - hOf hs l.src
  hi : hOf hs l.dst - hOf hs l.src <= l.rise + l.err
structure HsOk (n : Int) (hs : List Int) : Prop where
  len : (hs.length : Int) = n
  zero : hs.getD 0 0 = 0
  bnd : ∀ v, -300 <= hOf hs v /\ hOf hs v <= 300
/-- What a net of numbers is like. -/
structure MadeN (most n : Int) (ls : List Line) (hs : List Int) : Prop where
  two : 2 <= n /\ n <= most
  hh : HsOk n hs
  one : 1 <= ls.length /\ ls.length <= 14
  ln : ∀ l, l ∈ ls -> LnOk n hs l
theorem LnOk.rise {n : Int} {hs : List Int} {l : Line} (h : LnOk n hs l) (hh : HsOk n hs) : -700 <= l.rise /\ l.rise <= 700 := by
  have h1 := hh.bnd l.src
  have h2 := hh.bnd l.dst
  have := h.err
  have := h.lo
  have := h.hi
  omega
theorem net_ok {most n : Int} {ls : List Line} {hs : List Int} (hm : 1 <= n /\ n <= 12) (hh : HsOk n hs) (hl : ls.length <= 30) (h : ∀ l, l ∈ ls -> LnOk n hs l) : NetOk n ls :=
  ⟨hm, hl, fun l hl => ⟨(h l hl).src, (h l hl).dst⟩, fun l hl => (h l hl).ne, fun l hl => by have := (h l hl).day; omega, fun l hl => by have := (h l hl).rise hh; omega, fun l hl => by have := (h l hl).err; omega⟩
theorem feas_ln {n : Int} {ls : List Line} {hs : List Int} (h : ∀ l, l ∈ ls -> LnOk n hs l) : Feas ls (hOf hs) := fun l hl => ⟨(h l hl).lo, (h l hl).hi⟩
theorem MadeN.ok {most n : Int} {ls : List Line} {hs : List Int} (h : MadeN most n ls hs) (hm : most <= 12) : NetOk n ls := net_ok (most := 0) (by have := h.two; omega) h.hh (by have := h.one; omega) h.ln
theorem MadeN.agr {most n : Int} {ls : List Line} {hs : List Int} (h : MadeN most n ls hs) : Agr ls := ⟨_, feas_ln h.ln⟩
theorem modne {a j n : Int} (ha : 0 <= a /\ a < n) (hj : 1 <= j /\ j < n) : (0 <= (a + j) % n /\ (a + j) % n < n) /\ (a + j) % n ≠ a := by
  have h1 := Int.emod_nonneg (a + j) (show n ≠ 0 by omega)
  have h2 := Int.emod_lt_of_pos (a + j) (show 0 < n by omega)
  refine ⟨⟨h1, h2⟩, fun e => ?_⟩
  by_cases h : a + j < n
  · rw [Int.emod_eq_of_lt (by omega) h] at e; omega
  · rw [← Int.sub_emod_right, Int.emod_eq_of_lt (by omega) (by omega)] at e; omega
end Go.Nm
namespace Go.Proofs.Ytclhljenjphofaa
open Go Go.Nm
theorem levelled_out {b : List UInt8} {c u x n : Int} {hs : List Int} {a t day : Int} (h : SOk c u x) (hc : c <= 100000000000) (hh : HsOk n hs) (ha : 0 <= a /\ a < n) (ht : 0 <= t /\ t < n) (hne : a ≠ t) (hd : 0 <= day /\ day < 30) :
    (m_nilometerlaw01_Levelled b u x hs a t day).Out (fun y => LnOk n hs ⟨y.1, y.2.1, y.2.2.1, y.2.2.2.1, y.2.2.2.2.1⟩ /\ SOk (c + 2) y.2.2.2.2.2.1 y.2.2.2.2.2.2) := by
  have hl := hh.len
  have b1 := hh.bnd a
  have b2 := hh.bnd t
  unfold hOf at b1 b2
  unfold m_nilometerlaw01_Levelled
  refine M.o_bind (next_out h (by omega) (by omega)) ?_
  rintro ⟨r2, u1, x1⟩ ⟨ok, hlt, _⟩
  dsimp only at ok hlt ⊢
  have hlt := hlt (by omega)
  refine M.o_grd (gA2 (by omega) (by omega)) (M.o_grd (gA2 (by omega) (by omega)) (M.o_grd (gA2 (by omega) (by omega)) (M.o_grd (gA2 (by omega) (by omega)) ?_)))
  refine M.o_bind (within_out ok (by omega) (by omega) (by omega) (by omega)) ?_
  rintro ⟨r3, u2, x2⟩ ⟨ok2, h1, h2⟩
  dsimp only at ok2 h1 h2 ⊢
  refine M.o_grd (gA2 (by omega) (by omega)) (M.o_pure ⟨⟨ha, ht, hne, hd, by dsimp only; omega, ?_, ?_⟩, ok2.mono (by omega)⟩)
  · unfold hOf; dsimp only; omega
  · unfold hOf; dsimp only; omega
theorem made_out {b : List UInt8} {c u x most : Int} (h : SOk c u x) (hc : c <= 100000000) (h2 : 2 <= most) (h12 : most <= 12) : (m_nilometerlaw01_Made b u x most).Out (fun y => MadeN most y.1 y.2.1 y.2.2.1 /\ SOk (c + 2000) y.2.2.2.1 y.2.2.2.2) := by
  unfold m_nilometerlaw01_Made
  refine M.o_bind (within_out h (by omega) (by omega) h2 (by omega)) ?_
  rintro ⟨n, u1, x1⟩ ⟨hs, r0, r1⟩
  dsimp only at hs r0 r1 ⊢
  refine M.o_bind (P := fun y => HsOk n y.2.2.2 /\ SOk (c + 100) y.1 y.2.1) ?_ ?_
  · refine M.o_for (Int.toNat n - 1) (fun i st => st.2.2.length = i + 1 /\ SOk (c + 1 + i) st.1 st.2.1 /\ st.2.2.getD 0 0 = 0 /\ ∀ j : Nat, -300 <= st.2.2.getD j 0 /\ st.2.2.getD j 0 <= 300) ?_ ?_ (s := (u1, x1, [0])) ⟨rfl, hs.mono (by simp), rfl, fun j => ?_⟩
    · rintro i ⟨u, x, l⟩ hi ⟨hl, ok, hz, hb⟩
      dsimp only at hl ok hz hb
      simp only [m_nilometerlaw01_Made_b0]
      refine M.o_t (decide_eq_true (by omega)) (M.o_bind (within_out ok (by omega) (by omega) (by omega) (by omega)) ?_)
      rintro ⟨r3, u2, x2⟩ ⟨ok2, h1, h2⟩
      dsimp only at ok2 h1 h2 ⊢
      refine M.o_grdD (by simp only [List.length_cons, List.length_nil]; omega) (M.o_pure ⟨by simp [hl], ok2.mono (by omega), ?_, fun j => ?_⟩)
      · dsimp only
        simp only [List.getD_eq_getElem?_getD] at hz ⊢
        rw [List.getElem?_append_left (by omega)]; exact hz
      · dsimp only
        have := hb j
        simp only [List.getD_eq_getElem?_getD] at this ⊢
        by_cases e : j < l.length
        · rw [List.getElem?_append_left e]; exact this
        · rw [List.getElem?_append_right (by omega)]
          by_cases e2 : j - l.length = 0
          · rw [e2]; simp; omega
          · rw [List.getElem?_eq_none (by simp; omega)]; simp
    · rintro ⟨u, x, l⟩ ⟨hl, ok, hz, hb⟩
      dsimp only at hl ok hz hb
      simp only [m_nilometerlaw01_Made_b0]
      exact M.o_f (decide_eq_false (by omega)) (M.o_pure ⟨⟨by dsimp only; omega, hz, fun v => hb _⟩, ok.mono (by omega)⟩)
    · cases j with
      | zero => simp
      | succ j => simp
  · rintro ⟨u, x, l2, l3⟩ ⟨hh, ok⟩
    dsimp only at hh ok ⊢
    refine M.o_bind (within_out ok (by omega) (by omega) (by omega) (by omega)) ?_
    rintro ⟨k, u3, x3⟩ ⟨ok3, k0, k1⟩
    dsimp only at ok3 k0 k1 ⊢
    refine M.o_bind (P := fun y => (1 <= y.2.1.length /\ y.2.1.length <= 14) /\ (∀ l, l ∈ y.2.1 -> LnOk n l3 l) /\ SOk (c + 2000) y.2.2.1 y.2.2.2) ?_ (fun y hy => M.o_pure ⟨⟨⟨by dsimp only; omega, by dsimp only; omega⟩, hh, hy.1, hy.2.1⟩, hy.2.2⟩)
    refine M.o_for (Int.toNat k) (fun i st => st.2.2.1 = i /\ st.2.2.2.length = i /\ SOk (c + 101 + 10 * i) st.1 st.2.1 /\ ∀ l, l ∈ st.2.2.2 -> LnOk n l3 l) ?_ ?_ (s := (u3, x3, 0, [])) ⟨rfl, rfl, ok3.mono (by omega), fun l hl => by simp at hl⟩
    · rintro i ⟨u, x, j, l⟩ hi ⟨rfl, hl, ok, hj⟩
      dsimp only at hi hl ok hj
      simp only [m_nilometerlaw01_Made_b1]
      refine M.o_t (decide_eq_true (by omega)) (M.o_bind (next_out ok (by omega) (by omega)) ?_)
      rintro ⟨r5, u5, x5⟩ ⟨ok5, h5, _⟩
      dsimp only at ok5 h5 ⊢
      have h5 := h5 (by omega)
      refine M.o_grd (gA2 (by omega) (by omega)) (M.o_grd (gA2 (by omega) (by omega)) (M.o_bind (next_out ok5 (by omega) (by omega)) ?_))
      rintro ⟨r6, u6, x6⟩ ⟨ok6, h6, _⟩
      dsimp only at ok6 h6 ⊢
      have h6 := h6 (by omega)
      refine M.o_grd (gA2 (by omega) (by omega)) (M.o_grd (gA2 (by omega) (by omega)) (M.o_bind (next_out ok6 (by omega) (by omega)) ?_))
      rintro ⟨r7, u7, x7⟩ ⟨ok7, h7, _⟩
      dsimp only at ok7 h7 ⊢
      have h7 := h7 (by omega)
      have hm := modne (a := r5) (j := 1 + r6) (n := n) (by omega) (by omega)
      rw [← Int.add_assoc] at hm
      refine M.o_bind (levelled_out ok7 (by omega) hh (a := r5) (t := (r5 + 1 + r6) % n) (by omega) hm.1 (fun e => hm.2 e.symm) h7) ?_
      rintro ⟨y0, y1, y2, y3, y4, y5, y6⟩ ⟨hln, ok8⟩
      dsimp only at hln ok8 ⊢
      refine M.o_grdD (by simp only [List.length_cons, List.length_nil]; omega) (M.o_grd (gA2 (by omega) (by omega)) (M.o_pure ⟨rfl, by simp [hl], ok8.mono (by omega), fun l' hl' => ?_⟩))
      simp only [List.mem_append, List.mem_cons, List.not_mem_nil, or_false] at hl'
      rcases hl' with hl' | rfl
      · exact hj l' hl'
      · exact hln
    · rintro ⟨u, x, j, l⟩ ⟨rfl, hl, ok, hj⟩
      dsimp only at hl ok hj
      simp only [m_nilometerlaw01_Made_b1]
      exact M.o_f (decide_eq_false (by omega)) (M.o_pure ⟨by dsimp only; omega, hj, ok.mono (by omega)⟩)
theorem new_ends (b : List UInt8) : (m_nilometerkit_New b).Ends (0, 0) := M.i_pure
theorem sok0 : SOk 0 0 0 := ⟨Int.le_refl _, Int.le_refl _, Int.le_refl _, by decide⟩
theorem copy_net {ls : List Line} (h : ls.length <= 1000000) (n : Int) : (m_nilometerlaw01_CopyNet n ls).Ends (n, ls) := by
  unfold m_nilometerlaw01_CopyNet m_nilometerkit_Copy_level_Line
  exact M.i_bind (M.i_grd (decide_eq_true (by simp only [List.length_nil]; omega)) M.i_pure) M.i_pure
end Go.Proofs.Ytclhljenjphofaa
namespace Go.Proofs.Ytclhljenjphofaa
open Go Go.Nm
set_option maxRecDepth 100000 in
theorem awake_ends : (m_nilometerlaw01_awake).Ends true := ⟨300, by kernel_rfl⟩
end Go.Proofs.Ytclhljenjphofaa
namespace Go.Nm
/-- A place of a table. -/
def tb (l : List (List Int)) (a b : Nat) : Int := (l.getD a []).getD b 0
structure Sq (N : Nat) (l : List (List Int)) : Prop where
  len : l.length = N
  rows : ∀ a, a < N -> (l.getD a []).length = N
theorem Sq.set {N a b : Nat} {l : List (List Int)} (h : Sq N l) (ha : a < N) (x : Int) : Sq N (l.set a ((l.getD a []).set b x)) := by
  refine ⟨by rw [List.length_set]; exact h.len, fun i hi => ?_⟩
  rw [gset _ _ _ _ _ (by rw [h.len]; exact ha)]
  by_cases e : i = a
  · rw [if_pos e, List.length_set]; exact h.rows a ha
  · rw [if_neg e]; exact h.rows i hi
theorem tb_set {N a b : Nat} {l : List (List Int)} (h : Sq N l) (ha : a < N) (hb : b < N) (x : Int) (i j : Nat) : tb (l.set a ((l.getD a []).set b x)) i j = if i = a /\ j = b then x else tb l i j := by
  unfold tb
  rw [gset _ _ _ _ _ (by rw [h.len]; exact ha)]
  by_cases e : i = a
  · subst e
    rw [if_pos rfl, gset _ _ _ _ _ (by rw [h.rows i ha]; exact hb)]
    by_cases e2 : j = b
    · rw [if_pos e2, if_pos ⟨rfl, e2⟩]
    · rw [if_neg e2, if_neg (fun h => e2 h.2)]
  · rw [if_neg e, if_neg (fun h => e h.1)]
/-- One step. -/
def up (k a b : Nat) (l : List (List Int)) : List (List Int) :=
  if tb l a k < 1000000000000 /\ tb l k b < 1000000000000 then l.set a ((l.getD a []).set b (max (-1000000000000) (min (tb l a b) (tb l a k + tb l k b)))) else l
theorem up_sq {N k a b : Nat} {l : List (List Int)} (h : Sq N l) (ha : a < N) : Sq N (up k a b l) := by
  unfold up
  split
  · exact h.set ha _
  · exact h
theorem tb_up {N k a b : Nat} {l : List (List Int)} (h : Sq N l) (ha : a < N) (hb : b < N) (i j : Nat) : tb (up k a b l) i j = if i = a /\ j = b /\ tb l a k < 1000000000000 /\ tb l k b < 1000000000000 then max (-1000000000000) (min (tb l a b) (tb l a k + tb l k b)) else tb l i j := by
  unfold up
  by_cases c : tb l a k < 1000000000000 /\ tb l k b < 1000000000000
  · rw [if_pos c, tb_set h ha hb]
    by_cases e : i = a /\ j = b
    · rw [if_pos e, if_pos ⟨e.1, e.2, c⟩]
    · rw [if_neg e, if_neg (fun h => e ⟨h.1, h.2.1⟩)]
  · rw [if_neg c, if_neg (fun h => c h.2.2)]
def bd : Nat -> Int
  | 0 => 1010000
  | k + 1 => 2 * bd k
theorem bd_pos : ∀ k, 0 < bd k
  | 0 => by decide
  | k + 1 => by have := bd_pos k; unfold bd; omega
theorem bd_le : ∀ k, k <= 12 -> bd k <= 5000000000 := by decide
/-- A table in which the first k marks were gone through. -/
structure RT (N k : Nat) (T0 T : Nat -> Nat -> Int) : Prop where
  lo : ∀ a b, a < N -> b < N -> -bd k <= T a b
  hi : ∀ a b, a < N -> b < N -> T a b = 1000000000000 ∨ T a b <= bd k
  cl : ∀ a b j, a < N -> b < N -> j < N -> j < k -> T a j < 1000000000000 -> T j b < 1000000000000 -> T a b <= T a j + T j b
  le : ∀ a b, a < N -> b < N -> T a b <= T0 a b
def FT (k : Nat) (T : Nat -> Nat -> Int) (a b : Nat) : Int := if T a k < 1000000000000 /\ T k b < 1000000000000 then min (T a b) (T a k + T k b) else T a b
theorem FT_row {k b : Nat} {T : Nat -> Nat -> Int} (h : 0 <= T k k) : FT k T k b = T k b := by
  unfold FT
  split <;> omega
theorem FT_col {k a : Nat} {T : Nat -> Nat -> Int} (h : 0 <= T k k) : FT k T a k = T a k := by
  unfold FT
  split <;> omega
theorem FT_le (k : Nat) (T : Nat -> Nat -> Int) (a b : Nat) : FT k T a b <= T a b := by
  unfold FT
  split <;> omega
theorem RT.next {N k : Nat} {T0 T : Nat -> Nat -> Int} (h : RT N k T0 T) (hk : k < N) (hN : N <= 12) (hp : 0 <= T k k) : RT N (k + 1) T0 (FT k T) := by
  have hb := bd_le (k + 1) (by omega)
  have hb0 := bd_pos k
  have e2 : bd (k + 1) = 2 * bd k := rfl
  refine ⟨fun a b ha hb => ?_, fun a b ha hb => ?_, fun a b j ha hb hj hjk h1 h2 => ?_, fun a b ha hb => Int.le_trans (FT_le k T a b) (h.le a b ha hb)⟩
  · have l1 := h.lo a b ha hb
    have l2 := h.lo a k ha hk
    have l3 := h.lo k b hk hb
    unfold FT
    split <;> omega
  · have l1 := h.hi a b ha hb
    have l2 := h.hi a k ha hk
    have l3 := h.hi k b hk hb
    unfold FT
    split <;> omega
  · have kj := h.lo k j hk hj
    have jk := h.lo j k hj hk
    have ak := h.lo a k ha hk
    have kb := h.lo k b hk hb
    have hkj := h.hi k j hk hj
    have hjk' := h.hi j k hj hk
    have hak := h.hi a k ha hk
    have hkb := h.hi k b hk hb
    have haj := h.hi a j ha hj
    have hjb := h.hi j b hj hb
    have hab := h.hi a b ha hb
    by_cases e : j = k
    · subst e
      rw [FT_col hp] at h1 ⊢
      rw [FT_row hp] at h2 ⊢
      unfold FT
      rw [if_pos ⟨h1, h2⟩]
      omega
    · have hjk2 : j < k := by omega
      have c1 := h.cl a b j ha hb hj hjk2
      have c2 := h.cl k b j hk hb hj hjk2
      have c3 := h.cl a k j ha hk hj hjk2
      have c4 := h.cl k k j hk hk hj hjk2
      unfold FT at h1 h2 ⊢
      split at h1 <;> split at h2 <;> split <;> (try split) <;> (try split) <;> omega
/-- A table through which all marks were gone, without a mark that is lower than itself, gives heights. -/
theorem RT.feas {N : Nat} {ls : List Line} {T0 T : Nat -> Nat -> Int} (h : RT N N T0 T) (hN : 1 <= N) (hR : Rng N ls) (h0 : ∀ a b c, Ed ls (a : Nat) (b : Nat) c -> T0 a b <= c) (hc : ∀ a b c, Ed ls a b c -> c <= 1010000) (hd : ∀ a, a < N -> T a a <= 0) : Agr ls := by
  have col : ∀ v : Nat, ∀ m : Nat, m <= N -> 1 <= m -> ∃ a, a < m /\ ∀ x, x < m -> T a v <= T x v := by
    intro v m
    induction m with
    | zero => intro _ h; omega
    | succ m ih =>
      intro hm _
      by_cases e : m = 0
      · subst e; exact ⟨0, by omega, fun x hx => by rw [show x = 0 by omega]; exact Int.le_refl _⟩
      · obtain ⟨a, ha, hx⟩ := ih (by omega) (by omega)
        by_cases c : T m v < T a v
        · refine ⟨m, by omega, fun x hx' => ?_⟩
          by_cases e2 : x = m
          · rw [e2]; exact Int.le_refl _
          · have := hx x (by omega); omega
        · refine ⟨a, by omega, fun x hx' => ?_⟩
          by_cases e2 : x = m
          · rw [e2]; omega
          · exact hx x (by omega)
  have pick : ∀ v : Nat, ∃ a, a < N /\ ∀ x, x < N -> T a v <= T x v := fun v => col v N (Nat.le_refl _) hN
  refine ⟨fun v => T (pick v.toNat).choose v.toNat, feas_of fun m g c he => ?_⟩
  have hr := he.rng hR
  obtain ⟨m, rfl⟩ : ∃ k : Nat, m = k := ⟨m.toNat, by omega⟩
  obtain ⟨g, rfl⟩ : ∃ k : Nat, g = k := ⟨g.toNat, by omega⟩
  simp only [Int.toNat_natCast]
  obtain ⟨p1, p2⟩ := (pick m).choose_spec
  obtain ⟨q1, q2⟩ := (pick g).choose_spec
  generalize (pick m).choose = p at *
  generalize (pick g).choose = q at *
  have hm : m < N := by omega
  have hg : g < N := by omega
  have e1 := p2 m hm
  have e2 := hd m hm
  have e3 := q2 p p1
  have e4 := h.le m g hm hg
  have e5 := h0 m g c he
  have e6 := hc _ _ _ he
  have := h.cl p g m p1 hg hm hm (by omega) (by omega)
  omega
end Go.Nm
