/- Part 6 of the texts on which the proof rests. Conditions: none. -/
import Derived.Test.YtclhljenjphofaaZW5
set_option linter.unusedVariables false
set_option linter.unusedSimpArgs false
set_option linter.unusedSectionVars false
section
set_option maxRecDepth 100000
set_option maxHeartbeats 16000000
namespace Go.Proofs.Ytclhljenjphofaa
open Go Go.Nm
def m_level_survey_sinking_b4 (w__Net_Marks : Int) (w__Net_Lines : List Line) (s5 : Nat) : (Int × (List Int) × (List Leg) × (List Bool)) -> Leg -> M ((Int × (List Int) × (List Leg) × (List Bool)) ⊕ Unit) := fun (s, s2, s3, s4) x =>
  M.bind (m_level_survey_goal w__Net_Marks w__Net_Lines x) fun r2 =>
  M.bind (m_level_survey_rise w__Net_Marks w__Net_Lines x) fun r3 =>
  M.grd (decide ((-9223372036854775808 : Int) <= ((s2.getD s5 0) + r3)) && decide (((s2.getD s5 0) + r3) <= (9223372036854775807 : Int))) <|
  M.grd (decide ((0 : Int) <= r2) && decide (r2 < (13 : Int))) <|
  bif ((!(s4.getD (Int.toNat r2) false)) || (decide (((s2.getD s5 0) + r3) < (s2.getD (Int.toNat r2) 0)))) then (
  M.pure (.inl (r2, s2.set (Int.toNat r2) ((s2.getD s5 0) + r3), s3.set (Int.toNat r2) x, s4.set (Int.toNat r2) true)))
  else (
  M.pure (.inl (s, s2, s3, s4)))
def m_level_survey_sinking_b5 (w__Net_Marks : Int) (w__Net_Lines : List Line) : (Nat × (List Int) × (List Leg) × (List Bool) × Int) -> M ((Nat × (List Int) × (List Leg) × (List Bool) × Int) ⊕ ((List Int) × (List Leg) × (List Bool) × Int)) := fun (s5, s6, s7, s8, s9) =>
  bif decide ((s5 : Int) < w__Net_Marks) then (
  M.grd (decide ((0 : Int) <= (s5 : Int)) && decide ((s5 : Int) < (13 : Int))) <|
  bif !(s8.getD s5 false) then (
  M.grd (decide ((-9223372036854775808 : Int) <= ((s5 : Int) + 1)) && decide (((s5 : Int) + 1) <= (9223372036854775807 : Int))) <|
  M.pure (.inl (s5 + 1, s6, s7, s8, s9)))
  else (
  M.bind (m_level_survey_legs w__Net_Marks w__Net_Lines (s5 : Int)) fun r10 =>
  M.bind (m_level_survey_legs_1 (M.yl (m_level_survey_sinking_b4 w__Net_Marks w__Net_Lines s5)) (.inl (s9, s6, s7, s8)) w__Net_Marks w__Net_Lines r10) fun x_ => match x_ with
  | .inl (s, s2, s3, s4) => (
  M.grd (decide ((-9223372036854775808 : Int) <= ((s5 : Int) + 1)) && decide (((s5 : Int) + 1) <= (9223372036854775807 : Int))) <|
  M.pure (.inl (s5 + 1, s2, s3, s4, s)))
  | .inr _ => M.fail))
  else (
  M.pure (.inr (s6, s7, s8, s9)))
def m_level_survey_sinking_b6 (w__Net_Marks : Int) (w__Net_Lines : List Line) : ((List Int) × (List Leg) × (List Bool) × Int × Nat) -> M (((List Int) × (List Leg) × (List Bool) × Int × Nat) ⊕ ((List Int) × (List Leg) × (List Bool) × Int)) := fun (s11, s12, s13, s14, s15) =>
  bif decide ((s15 : Int) < (w__Net_Marks + 1)) then (
  M.bind (M.iter (m_level_survey_sinking_b5 w__Net_Marks w__Net_Lines) (0, s11, s12, s13, -1)) fun (l, l2, l3, s10) =>
  M.grd (decide ((-9223372036854775808 : Int) <= ((s15 : Int) + 1)) && decide (((s15 : Int) + 1) <= (9223372036854775807 : Int))) <|
  M.pure (.inl (l, l2, l3, s10, s15 + 1)))
  else (
  M.pure (.inr (s11, s12, s13, s14)))
def m_level_survey_sinking_b7 (w__Net_Marks : Int) (w__Net_Lines : List Line) (l5 : List Leg) : (Int × Nat) -> M ((Int × Nat) ⊕ Int) := fun (s17, s18) =>
  bif decide ((s18 : Int) < w__Net_Marks) then (
  M.grd (decide ((0 : Int) <= s17) && decide (s17 < (13 : Int))) <|
  M.bind (m_level_survey_start w__Net_Marks w__Net_Lines (l5.getD (Int.toNat s17) default)) fun r4 =>
  M.grd (decide ((-9223372036854775808 : Int) <= ((s18 : Int) + 1)) && decide (((s18 : Int) + 1) <= (9223372036854775807 : Int))) <|
  M.pure (.inl (r4, s18 + 1)))
  else (
  M.pure (.inr s17))
def m_level_survey_sinking_b8 (w__Net_Marks : Int) (w__Net_Lines : List Line) (l5 : List Leg) (s19 : Int) : (Int × (List Leg)) -> M ((Int × (List Leg)) ⊕ ((List Leg) × (List Leg))) := fun (mark, l7) =>
  bif (((l7.length : Int) == 0) || (mark != s19)) then (
  M.grd (decide ((0 : Int) <= mark) && decide (mark < (13 : Int))) <|
  M.grd (decide ((l7.length + ([(l5.getD (Int.toNat mark) default)]).length) * 16 <= 140737488355328)) <|
  M.bind (m_level_survey_start w__Net_Marks w__Net_Lines (l5.getD (Int.toNat mark) default)) fun r5 =>
  M.pure (.inl (r5, l7 ++ ([(l5.getD (Int.toNat mark) default)]))))
  else (
  M.pure (.inr (l7, l7)))
def m_level_survey_sinking (w__Net_Marks : Int) (w__Net_Lines : List Line) (from_ : Int) : M (List Leg) :=
  M.grd (decide ((0 : Int) <= from_) && decide (from_ < (13 : Int))) <|
  M.grd (decide ((-9223372036854775808 : Int) <= (w__Net_Marks + 1)) && decide ((w__Net_Marks + 1) <= (9223372036854775807 : Int))) <|
  M.bind (M.iter (m_level_survey_sinking_b6 w__Net_Marks w__Net_Lines) (List.replicate 13 0, List.replicate 13 default, (List.replicate 13 false).set (Int.toNat from_) true, -1, 0)) fun (l4, l5, l6, s16) =>
  bif s16 == (-1) then (
  M.pure ([]))
  else (
  M.bind (M.iter (m_level_survey_sinking_b7 w__Net_Marks w__Net_Lines l5) (s16, 0)) fun s19 =>
  M.bind (M.iter (m_level_survey_sinking_b8 w__Net_Marks w__Net_Lines l5 s19) (s19, [])) fun (l8, l9) =>
  M.bind (m_slices_Reverse_level_Leg l9) fun l_s =>
  M.grd (decide (0 < l_s.length)) <|
  M.pure l_s)
theorem level_survey_sinking_ok {R : List Chunk} {b_w_ : Nat} {C_w__Net_Lines : Cells} {v_w__Net_Lines : Value} (w__Net_Marks : Int) (w__Net_Lines : List Line) (from_ : Int) (hC_w__Net_Lines : Reads R C_w__Net_Lines) (hs_w__Net_Lines : Sl C_w__Net_Lines v_w__Net_Lines w__Net_Lines) (h_b_w_ : Fld R b_w_ [I w__Net_Marks, v_w__Net_Lines]) {r : (List Leg)} (hM : (m_level_survey_sinking w__Net_Marks w__Net_Lines from_).Ends r) (w : World) (H : St w w [] R) : Ret Try.prog 87 #[.pointer (some ⟨b_w_, 0, none⟩), I from_] w fun v w' => ∃ (y0 : List Leg) (u0 : Value), y0 = r /\ v = u0 /\ St w w' [cOwn (α := Leg) 91 u0 y0] R /\ (y0 = [] -> u0 = .slice none 0 0) := by
 refine ret_of_WD Try.func87 rfl rfl rfl ?_
 replace H : St w w [cMk ([])] R := H.mk0
 have hl_w__Net_Lines := hs_w__Net_Lines.len_le
 unfold m_level_survey_sinking at hM
 refine WD.seq ?_
 refine WD.of ?_
 refine W.region rfl ?_
 refine t_box (v := .pointer (some ⟨b_w_, 0, none⟩)) (cs := [.pointer (some ⟨b_w_, 0, none⟩)]) H rfl rfl ?_
 intro b_1 w1z H
 refine s_val (x_as (v := .slice none 0 0) rfl) ?_
 refine s_nil ?_
 refine WD.seq ?_
 refine WD.of ?_
 refine W.region rfl ?_
 refine t_alloc (cs := (List.flatten [[], encF (α := Int) (List.replicate 13 0), encF (α := Leg) (List.replicate 13 default), encF (α := Bool) (List.replicate 13 false)])) H Al164 (by kernel_rfl) ?_
 intro b_2 w2z H
 refine s_nil ?_
 refine WD.seq ?_
 refine WD.of ?_
 refine W.region rfl ?_
 refine s_val (x_mv (v := I from_) rfl) ?_
 refine s_val (x_fa (a := .pointer (some ⟨b_2, 0, none⟩)) (v := .pointer (some ⟨b_2, 39, none⟩)) rfl (fa_blk (o := 0) Fd164_2 Sz162)) ?_
 obtain ⟨sd3z, hM⟩ := M.e_grd hM
 simp only [Bool.and_eq_true, decide_eq_true_eq] at sd3z
 refine s_val (x_ix (a := .pointer (some ⟨b_2, 39, none⟩)) (b := I from_) (v := .pointer (some ⟨b_2, 39 + Int.toNat from_ * 1, none⟩)) rfl rfl (run_indexS Try.underlying162 Sz4 (by omega) (by omega))) ?_
 refine t_stS (α := Bool) (kc := 0) (b := b_2) (k := 3) (off := 39) (i := (Int.toNat from_)) (f := 0) (sz := 1) (segs := [[], encF (α := Int) (List.replicate 13 0), encF (α := Leg) (List.replicate 13 default), encF (α := Bool) (List.replicate 13 false)]) (segs' := [[], encF (α := Int) (List.replicate 13 0), encF (α := Leg) (List.replicate 13 default), encF (α := Bool) ((List.replicate 13 false).set (Int.toNat from_) true)]) (l := List.replicate 13 false) (l' := (List.replicate 13 false).set (Int.toNat from_) true) (vs := [B true]) (L' := [cBlk b_2 (List.flatten [[], encF (α := Int) (List.replicate 13 0), encF (α := Leg) (List.replicate 13 default), encF (α := Bool) ((List.replicate 13 false).set (Int.toNat from_) true)]) 164, cBlk b_1 [.pointer (some ⟨b_w_, 0, none⟩)] 111, cMk ([])]) H rfl rfl rfl Sz4 rfl rfl rfl rfl (sgo3 List.length_replicate List.length_replicate rfl) rfl rfl (by have hl_ := (show (List.replicate 13 false).length = 13 from List.length_replicate); omega) (by omega) false true rfl rfl rfl rfl ?_
 intro w4z H
 have hl5z : ((List.replicate 13 false).set (Int.toNat from_) true).length = 13 := List.length_set.trans List.length_replicate
 refine s_nil ?_
 refine WD.seq ?_
 refine WD.of ?_
 refine W.region rfl ?_
 refine t_alloc (cs := [I 0]) H Al3 rfl ?_
 intro b_3 w6z H
 refine t_st (k := 0) (b := b_3) (off := 0) (cs := [I 0]) (vs := [I (-1)]) (cs' := [I (-1)]) (v := I (-1)) (L' := [cBlk b_3 [I (-1)] 3, cBlk b_2 (List.flatten [[], encF (α := Int) (List.replicate 13 0), encF (α := Leg) (List.replicate 13 default), encF (α := Bool) ((List.replicate 13 false).set (Int.toNat from_) true)]) 164, cBlk b_1 [.pointer (some ⟨b_w_, 0, none⟩)] 111, cMk ([])]) H rfl rfl rfl Sz3 rfl rfl rfl rfl rfl rfl ?_
 intro w7z H
 refine s_nil ?_
 refine WD.seq ?_
 refine WD.seq ?_
 refine WD.of ?_
 refine W.region rfl ?_
 refine s_val (x_ld (p := .pointer (some ⟨b_1, 0, none⟩)) (v := .pointer (some ⟨b_w_, 0, none⟩)) rfl (ldb_sc Sc111 (H.blk (k := 2) rfl) rfl)) ?_
 refine s_val (x_nc (a := ⟨b_w_, 0, none⟩) rfl) ?_
 refine s_val (x_fa (a := .pointer (some ⟨b_w_, 0, none⟩)) (v := .pointer (some ⟨b_w_, 0, none⟩)) rfl (fa_blk (o := 0) Fd120_0 Sz25)) ?_
 refine s_val (x_fa (a := .pointer (some ⟨b_w_, 0, none⟩)) (v := .pointer (some ⟨b_w_, 0, none⟩)) rfl (fa_blk (o := 0) Fd25_0 Sz3)) ?_
 refine s_val (x_ld (p := .pointer (some ⟨b_w_, 0, none⟩)) (v := I w__Net_Marks) rfl (fld_sc (pre := [I w__Net_Marks, v_w__Net_Lines]) (i := 0) Sc3 (h_b_w_.at H) rfl)) ?_
 obtain ⟨sd8z, hM⟩ := M.e_grd hM
 simp only [Bool.and_eq_true, decide_eq_true_eq] at sd8z
 refine s_val (x_ari (a := w__Net_Marks) (b := 1) (r := w__Net_Marks + 1) rfl rfl rfl (by omega)) ?_
 refine s_val (x_mv (v := I 0) rfl) ?_
 refine s_nil ?_
 refine WD.block ?_
 obtain ⟨ex9z, hi10z, hk11z⟩ := M.e_bind hM
 obtain ⟨m0_, hi10z⟩ := M.e_iter hi10z
 refine WD.loop (fun m Ds12z σ W => ∃ (s11 : List Int) (s12 : List Leg) (s13 : List Bool) (s14 : Int) (s15 : Nat) (ρ : Env), σ = upds ρ [(2, .pointer (some ⟨b_1, 0, none⟩)), (5, .pointer (some ⟨b_2, 0, none⟩)), (6, .pointer (some ⟨b_3, 0, none⟩)), (22, I (w__Net_Marks + 1)), (23, I (s15 : Int))] /\ M.iterN (m_level_survey_sinking_b6 w__Net_Marks w__Net_Lines) m (s11, s12, s13, s14, s15) = some ex9z /\ St w W [cBlk b_3 [I s14] 3, cBlk b_2 (List.flatten [[], encF (α := Int) s11, encF (α := Leg) s12, encF (α := Bool) s13]) 164, cBlk b_1 [.pointer (some ⟨b_w_, 0, none⟩)] 111, cMk Ds12z] R /\ s11.length = 13 /\ s12.length = 13 /\ s13.length = 13) ?_ ?_
 ·exact ⟨_, List.replicate 13 0, List.replicate 13 default, (List.replicate 13 false).set (Int.toNat from_) true, -1, 0, _, upds_of _ _ ⟨rfl, rfl, rfl, rfl, rfl, trivial⟩, hi10z, H, List.length_replicate, List.length_replicate, hl5z⟩
 ·rintro m15z Ds12z σ w13z ⟨s11, s12, s13, s14, s15, ρ, rfl, hI14z, H, hl_s11, hl_s12, hl_s13⟩
  obtain ⟨m16z, lt17z, x18z, hM, hN19z⟩ := M.e_iterN hI14z
  simp only [m_level_survey_sinking_b6] at hM
  clear hI14z
  refine WD.seq ?_
  refine WD.of ?_
  refine W.region rfl ?_
  refine s_val (x_cmp (kd := .i64) (a := (s15 : Int)) (b := w__Net_Marks + 1) (r := decide ((s15 : Int) < (w__Net_Marks + 1))) rfl rfl rfl) ?_
  refine s_nil ?_
  refine WD.seq ?_
  refine WD.cond (decide ((s15 : Int) < (w__Net_Marks + 1))) rfl (fun c20z => ?_) (fun c20z => ?_)
  ·replace hM := M.e_t hM c20z
   simp only [decide_eq_true_eq, decide_eq_false_iff_not, beq_iff_eq, bne_iff_ne, beq_eq_false_iff_ne, bne_eq_false_iff_eq, ne_eq, Decidable.not_not] at c20z
   refine WD.of ?_
   refine W.skip ?_
   refine WD.seq ?_
   refine WD.block ?_
   refine WD.seq ?_
   refine WD.of ?_
   refine W.region rfl ?_
   refine t_st (k := 0) (b := b_3) (off := 0) (cs := [I s14]) (vs := [I (-1)]) (cs' := [I (-1)]) (v := I (-1)) (L' := [cBlk b_3 [I (-1)] 3, cBlk b_2 (List.flatten [[], encF (α := Int) s11, encF (α := Leg) s12, encF (α := Bool) s13]) 164, cBlk b_1 [.pointer (some ⟨b_w_, 0, none⟩)] 111, cMk Ds12z]) H rfl rfl rfl Sz3 rfl rfl rfl rfl rfl rfl ?_
   intro w21z H
   refine s_nil ?_
   refine WD.seq ?_
   refine WD.of ?_
   refine W.region rfl ?_
   refine s_val (x_ld (p := .pointer (some ⟨b_1, 0, none⟩)) (v := .pointer (some ⟨b_w_, 0, none⟩)) rfl (ldb_sc Sc111 (H.blk (k := 2) rfl) rfl)) ?_
   refine s_val (x_nc (a := ⟨b_w_, 0, none⟩) rfl) ?_
   refine s_val (x_fa (a := .pointer (some ⟨b_w_, 0, none⟩)) (v := .pointer (some ⟨b_w_, 0, none⟩)) rfl (fa_blk (o := 0) Fd120_0 Sz25)) ?_
   refine s_val (x_fa (a := .pointer (some ⟨b_w_, 0, none⟩)) (v := .pointer (some ⟨b_w_, 0, none⟩)) rfl (fa_blk (o := 0) Fd25_0 Sz3)) ?_
   refine s_val (x_ld (p := .pointer (some ⟨b_w_, 0, none⟩)) (v := I w__Net_Marks) rfl (fld_sc (pre := [I w__Net_Marks, v_w__Net_Lines]) (i := 0) Sc3 (h_b_w_.at H) rfl)) ?_
   refine s_val (x_mv (v := I 0) rfl) ?_
   refine s_nil ?_
   refine WD.block ?_
   obtain ⟨ex22z, hi23z, hk24z⟩ := M.e_bind hM
   obtain ⟨m0_, hi23z⟩ := M.e_iter hi23z
   refine WD.loop (fun m Ds25z σ W => ∃ (s5 : Nat) (s6 : List Int) (s7 : List Leg) (s8 : List Bool) (s9 : Int) (ρ : Env), σ = upds ρ [(2, .pointer (some ⟨b_1, 0, none⟩)), (5, .pointer (some ⟨b_2, 0, none⟩)), (6, .pointer (some ⟨b_3, 0, none⟩)), (22, I (w__Net_Marks + 1)), (23, I (s15 : Int)), (29, I w__Net_Marks), (30, I (s5 : Int))] /\ M.iterN (m_level_survey_sinking_b5 w__Net_Marks w__Net_Lines) m (s5, s6, s7, s8, s9) = some ex22z /\ St w W [cBlk b_3 [I s9] 3, cBlk b_2 (List.flatten [[], encF (α := Int) s6, encF (α := Leg) s7, encF (α := Bool) s8]) 164, cBlk b_1 [.pointer (some ⟨b_w_, 0, none⟩)] 111, cMk Ds25z] R /\ s6.length = 13 /\ s7.length = 13 /\ s8.length = 13) ?_ ?_
   ·exact ⟨_, 0, s11, s12, s13, -1, _, upds_of _ _ ⟨rfl, rfl, rfl, rfl, rfl, rfl, rfl, trivial⟩, hi23z, H, hl_s11, hl_s12, hl_s13⟩
   ·rintro m28z Ds25z σ w26z ⟨s5, s6, s7, s8, s9, ρ, rfl, hI27z, H, hl_s6, hl_s7, hl_s8⟩
    obtain ⟨m29z, lt30z, x31z, hM, hN32z⟩ := M.e_iterN hI27z
    simp only [m_level_survey_sinking_b5] at hM
    clear hI27z
    refine WD.seq ?_
    refine WD.of ?_
    refine W.region rfl ?_
    refine s_val (x_cmp (kd := .i64) (a := (s5 : Int)) (b := w__Net_Marks) (r := decide ((s5 : Int) < w__Net_Marks)) rfl rfl rfl) ?_
    refine s_nil ?_
    refine WD.seq ?_
    refine WD.cond (decide ((s5 : Int) < w__Net_Marks)) rfl (fun c33z => ?_) (fun c33z => ?_)
    ·replace hM := M.e_t hM c33z
     simp only [decide_eq_true_eq, decide_eq_false_iff_not, beq_iff_eq, bne_iff_ne, beq_eq_false_iff_ne, bne_eq_false_iff_eq, ne_eq, Decidable.not_not] at c33z
     refine WD.of ?_
     refine W.skip ?_
     refine WD.seq ?_
     refine WD.block ?_
     refine WD.seq ?_
     refine WD.of ?_
     refine W.region rfl ?_
     refine s_val (x_mv (v := I (s5 : Int)) rfl) ?_
     refine t_alloc (cs := [I 0]) H Al3 rfl ?_
     intro b_4 w34z H
     refine t_st (k := 0) (b := b_4) (off := 0) (cs := [I 0]) (vs := [I (s5 : Int)]) (cs' := [I (s5 : Int)]) (v := I (s5 : Int)) (L' := [cBlk b_4 [I (s5 : Int)] 3, cBlk b_3 [I s9] 3, cBlk b_2 (List.flatten [[], encF (α := Int) s6, encF (α := Leg) s7, encF (α := Bool) s8]) 164, cBlk b_1 [.pointer (some ⟨b_w_, 0, none⟩)] 111, cMk Ds25z]) H rfl rfl rfl Sz3 rfl rfl rfl rfl rfl rfl ?_
     intro w35z H
     refine s_nil ?_
     refine WD.seq ?_
     refine WD.seq ?_
     refine WD.of ?_
     refine W.region rfl ?_
     refine s_val (x_ld (p := .pointer (some ⟨b_4, 0, none⟩)) (v := I (s5 : Int)) rfl (ldb_sc Sc3 (H.blk (k := 0) rfl) rfl)) ?_
     refine s_val (x_fa (a := .pointer (some ⟨b_2, 0, none⟩)) (v := .pointer (some ⟨b_2, 39, none⟩)) rfl (fa_blk (o := 0) Fd164_2 Sz162)) ?_
     obtain ⟨sd36z, hM⟩ := M.e_grd hM
     simp only [Bool.and_eq_true, decide_eq_true_eq] at sd36z
     refine s_val (x_ix (a := .pointer (some ⟨b_2, 39, none⟩)) (b := I (s5 : Int)) (v := .pointer (some ⟨b_2, 39 + Int.toNat (s5 : Int) * 1, none⟩)) rfl rfl (run_indexS Try.underlying162 Sz4 (by omega) (by omega))) ?_
     refine s_val (x_ld (p := .pointer (some ⟨b_2, 39 + Int.toNat (s5 : Int) * 1, none⟩)) (v := B (s8.getD s5 false)) rfl (ldS (α := Bool) (k := 3) (off := 39) (i := s5) (f := 0) (sz := 1) false Sc4 (H.blk (k := 2) rfl) rfl (sgo3 hl_s6 hl_s7 rfl) rfl (by decide) (by have hl_ := hl_s8; omega) (by omega) rfl)) ?_
     refine s_val (x_not (b := s8.getD s5 false) rfl) ?_
     refine s_nil ?_
     refine WD.cond (!(s8.getD s5 false)) rfl (fun c37z => ?_) (fun c37z => ?_)
     ·replace hM := M.e_t hM c37z
      refine WD.of ?_
      refine W.exit ?_
      refine WD.of ?_
      refine W.region rfl ?_
      obtain ⟨sd38z, hM⟩ := M.e_grd hM
      simp only [Bool.and_eq_true, decide_eq_true_eq] at sd38z
      refine s_val (x_ari (a := (s5 : Int)) (b := 1) (r := (s5 : Int) + 1) rfl rfl rfl (by omega)) ?_
      refine s_val (x_mv (v := I ((s5 : Int) + 1)) rfl) ?_
      refine s_nil ?_
      exact ⟨m29z, lt30z, s5 + 1, s6, s7, s8, s9, _, upds_of _ _ ⟨rfl, rfl, rfl, rfl, rfl, rfl, rfl, trivial⟩, M.e_inl hM hN32z, (H.pick [1, 2, 3, 4] (by decide) rfl), hl_s6, hl_s7, hl_s8⟩
     ·replace hM := M.e_f hM c37z
      refine WD.of ?_
      refine W.skip ?_
      refine WD.seq ?_
      refine WD.of ?_
      refine W.region rfl ?_
      refine s_val (x_ld (p := .pointer (some ⟨b_1, 0, none⟩)) (v := .pointer (some ⟨b_w_, 0, none⟩)) rfl (ldb_sc Sc111 (H.blk (k := 3) rfl) rfl)) ?_
      refine s_val (x_ld (p := .pointer (some ⟨b_4, 0, none⟩)) (v := I (s5 : Int)) rfl (ldb_sc Sc3 (H.blk (k := 0) rfl) rfl)) ?_
      obtain ⟨r40z, hx39z, hM⟩ := M.e_bind hM
      refine s_call cf89 [.pointer (some ⟨b_w_, 0, none⟩), I (s5 : Int)] rfl (level_survey_legs_ok w__Net_Marks w__Net_Lines (s5 : Int) (hC_w__Net_Lines.app _) hs_w__Net_Lines (h_b_w_.app _) hx39z _ (St.give (T := [cBlk b_4 [I (s5 : Int)] 3, cBlk b_3 [I s9] 3, cBlk b_2 (List.flatten [[], encF (α := Int) s6, encF (α := Leg) s7, encF (α := Bool) s8]) 164, cBlk b_1 [.pointer (some ⟨b_w_, 0, none⟩)] 111, cMk Ds25z]) H rfl)) ?_
      rintro vq w41z ⟨r10, nb0_5, nb1_6, hr42z, hvq, H2_⟩
      subst hr42z
      subst vq
      try dsimp only at hM
      replace H : St w w41z [cBlk nb0_5 [.pointer (some ⟨b_w_, 0, none⟩)] 111, cBlk nb1_6 [I r10] 3, cBlk b_4 [I (s5 : Int)] 3, cBlk b_3 [I s9] 3, cBlk b_2 (List.flatten [[], encF (α := Int) s6, encF (α := Leg) s7, encF (α := Bool) s8]) 164, cBlk b_1 [.pointer (some ⟨b_w_, 0, none⟩)] 111, cMk Ds25z] R := H.back H2_ rfl
      clear H2_
      refine s_nil ?_
      refine WD.block ?_
      obtain ⟨t43z, hx44z, hM⟩ := M.e_bind hM
      refine WD.range (L := [cBlk b_3 [I s9] 3, cBlk b_2 (List.flatten [[], encF (α := Int) s6, encF (α := Leg) s7, encF (α := Bool) s8]) 164, cBlk nb0_5 [.pointer (some ⟨b_w_, 0, none⟩)] 111, cBlk nb1_6 [I r10] 3, cBlk b_4 [I (s5 : Int)] 3, cBlk b_1 [.pointer (some ⟨b_w_, 0, none⟩)] 111]) [.pointer (some ⟨nb0_5, 0, none⟩), .pointer (some ⟨nb1_6, 0, none⟩)] (H.pick [6, 3, 4, 0, 1, 2, 5] (by decide) rfl) rfl cf101 ?_
      intro l45z D46z r47z w48z hr49z H
      have hYC : YieldC Try.prog ([cMk (D46z :: Ds25z), cBlk nb0_5 [.pointer (some ⟨b_w_, 0, none⟩)] 111, cBlk nb1_6 [I r10] 3, cBlk b_4 [I (s5 : Int)] 3, cBlk b_1 [.pointer (some ⟨b_w_, 0, none⟩)] 111] ++ R) arLeg (yJ l45z r47z (fun (s, s2, s3, s4) Ls_ => Ls_ = [cBlk b_3 [I s] 3, cBlk b_2 (List.flatten [[], encF (α := Int) s2, encF (α := Leg) s3, encF (α := Bool) s4]) 164] /\ s2.length = 13 /\ s3.length = 13 /\ s4.length = 13) (fun (_ : Unit) _ => False) (fun _ => .ret)) (.func (.yield l45z) #[] #[]) (M.yl (m_level_survey_sinking_b4 w__Net_Marks w__Net_Lines s5)) := by
       refine YieldC.mk2 hr49z (fun (s, s2, s3, s4) Ls_ => Ls_ = [cBlk b_3 [I s] 3, cBlk b_2 (List.flatten [[], encF (α := Int) s2, encF (α := Leg) s3, encF (α := Bool) s4]) 164] /\ s2.length = 13 /\ s3.length = 13 /\ s4.length = 13) (fun (_ : Unit) _ => False) (fun _ => .ret) (m_level_survey_sinking_b4 w__Net_Marks w__Net_Lines s5) (by rintro ⟨s, s2, s3, s4⟩ _ h_; obtain ⟨rfl, _, _, _⟩ := h_; rfl) (fun _ _ h_ => h_.elim) rfl (arLeg_len rfl) ?_
       intro C_ vs_ x hA_
       obtain rfl := hA_
       intro w R hR_ Ls_ s_ r hY_ hM H
       obtain ⟨s, s2, s3, s4⟩ := s_
       obtain ⟨rfl, hl_s2, hl_s3, hl_s4⟩ := hY_
       replace H : St w w [cBlk b_3 [I s] 3, cBlk b_2 (List.flatten [[], encF (α := Int) s2, encF (α := Leg) s3, encF (α := Bool) s4]) 164, cMk (D46z :: Ds25z), cBlk nb0_5 [.pointer (some ⟨b_w_, 0, none⟩)] 111, cBlk nb1_6 [I r10] 3, cBlk b_4 [I (s5 : Int)] 3, cBlk b_1 [.pointer (some ⟨b_w_, 0, none⟩)] 111] R := H
       refine W.region rfl ?_
       refine t_alloc (cs := [I 0, B false]) H Al91 rfl ?_
       intro b_7 w50z H
       refine t_st (k := 0) (b := b_7) (off := 0) (cs := [I 0, B false]) (vs := [I x.line, B x.back]) (cs' := [I x.line, B x.back]) (v := .agg #[I x.line, B x.back]) (L' := [cBlk b_7 [I x.line, B x.back] 91, cBlk b_3 [I s] 3, cBlk b_2 (List.flatten [[], encF (α := Int) s2, encF (α := Leg) s3, encF (α := Bool) s4]) 164, cMk (D46z :: Ds25z), cBlk nb0_5 [.pointer (some ⟨b_w_, 0, none⟩)] 111, cBlk nb1_6 [I r10] 3, cBlk b_4 [I (s5 : Int)] 3, cBlk b_1 [.pointer (some ⟨b_w_, 0, none⟩)] 111]) H rfl rfl rfl Sz91 rfl rfl rfl rfl rfl rfl ?_
       intro w51z H
       refine s_nil ?_
       refine ⟨rfl, [cBlk b_7 [I x.line, B x.back] 91], H.pick [0, 1, 2, 3, 4, 5, 6, 7] (by decide) rfl, ?_⟩
       clear H hR_
       intro w R hR_ H
       replace hC_w__Net_Lines := hC_w__Net_Lines.sub hR_
       replace h_b_w_ := h_b_w_.sub hR_
       replace hM : (m_level_survey_sinking_b4 w__Net_Marks w__Net_Lines s5 (s, s2, s3, s4) x).Ends r := hM
       simp only [m_level_survey_sinking_b4] at hM
       replace H : St w w [cBlk b_7 [I x.line, B x.back] 91, cBlk b_3 [I s] 3, cBlk b_2 (List.flatten [[], encF (α := Int) s2, encF (α := Leg) s3, encF (α := Bool) s4]) 164, cMk (D46z :: Ds25z), cBlk nb0_5 [.pointer (some ⟨b_w_, 0, none⟩)] 111, cBlk nb1_6 [I r10] 3, cBlk b_4 [I (s5 : Int)] 3, cBlk b_1 [.pointer (some ⟨b_w_, 0, none⟩)] 111] R := H
       refine W.block ?_
       refine W.seq ?_
       refine W.draw (fun W => St w W [cBlk b_7 [I x.line, B x.back] 91, cBlk b_3 [I s] 3, cBlk b_2 (List.flatten [[], encF (α := Int) s2, encF (α := Leg) s3, encF (α := Bool) s4]) 164, cMk (D46z :: Ds25z), cBlk nb0_5 [.pointer (some ⟨b_w_, 0, none⟩)] 111, cBlk nb1_6 [I r10] 3, cBlk b_4 [I (s5 : Int)] 3, cBlk b_1 [.pointer (some ⟨b_w_, 0, none⟩)] 111] R) [(0, true), (1, true), (3, true), (4, true), (5, true), (6, true), (7, true), (8, true), (2, false), (9, false), (10, true), (11, true), (12, true)] mixed (by decide +kernel) rfl ?_
       intro w52z hx_
       replace H : St w w52z [cBlk b_7 [I x.line, B x.back] 91, cBlk b_3 [I s] 3, cBlk b_2 (List.flatten [[], encF (α := Int) s2, encF (α := Leg) s3, encF (α := Bool) s4]) 164, cMk (D46z :: Ds25z), cBlk nb0_5 [.pointer (some ⟨b_w_, 0, none⟩)] 111, cBlk nb1_6 [I r10] 3, cBlk b_4 [I (s5 : Int)] 3, cBlk b_1 [.pointer (some ⟨b_w_, 0, none⟩)] 111] R := H.ext hx_
       clear hx_
       refine ⟨(H.pick [0, 1, 2, 3, 4, 5, 6, 7] (by decide) rfl), ?_⟩
       refine d_q rfl (fun w' H => x_ld (p := .pointer (some ⟨b_1, 0, none⟩)) (v := .pointer (some ⟨b_w_, 0, none⟩)) rfl (ldb_sc Sc111 (H.blk (k := 7) rfl) rfl)) ?_
       refine d_q rfl (fun w' H => x_ld (p := .pointer (some ⟨b_7, 0, none⟩)) (v := .agg #[I x.line, B x.back]) rfl (ldb_ag (ds := [I x.line, B x.back]) Ag91 Sz91 (H.blk (k := 0) rfl) rfl rfl)) ?_
       refine d_q rfl (fun w' H => x_ld (p := .pointer (some ⟨b_4, 0, none⟩)) (v := I (s5 : Int)) rfl (ldb_sc Sc3 (H.blk (k := 6) rfl) rfl)) ?_
       refine d_q rfl (fun w' H => x_fa (a := .pointer (some ⟨b_2, 0, none⟩)) (v := .pointer (some ⟨b_2, 0, none⟩)) rfl (fa_blk (o := 0) Fd164_0 Sz114)) ?_
       refine d_q rfl (fun w' H => x_ix (a := .pointer (some ⟨b_2, 0, none⟩)) (b := I (s5 : Int)) (v := .pointer (some ⟨b_2, 0 + Int.toNat (s5 : Int) * 1, none⟩)) rfl rfl (run_indexS Try.underlying114 Sz3 (by omega) (by omega))) ?_
       refine d_q rfl (fun w' H => x_ld (p := .pointer (some ⟨b_2, 0 + Int.toNat (s5 : Int) * 1, none⟩)) (v := I (s2.getD s5 0)) rfl (ldS (α := Int) (k := 1) (off := 0) (i := s5) (f := 0) (sz := 1) 0 Sc3 (H.blk (k := 2) rfl) rfl (sgo1 rfl) rfl (by decide) (by have hl_ := hl_s2; omega) (by omega) rfl)) ?_
       refine d_q rfl (fun w' H => x_ld (p := .pointer (some ⟨b_1, 0, none⟩)) (v := .pointer (some ⟨b_w_, 0, none⟩)) rfl (ldb_sc Sc111 (H.blk (k := 7) rfl) rfl)) ?_
       refine d_q rfl (fun w' H => x_ld (p := .pointer (some ⟨b_7, 0, none⟩)) (v := .agg #[I x.line, B x.back]) rfl (ldb_ag (ds := [I x.line, B x.back]) Ag91 Sz91 (H.blk (k := 0) rfl) rfl rfl)) ?_
       refine d_l rfl ?_
       obtain ⟨r54z, hx53z, hM⟩ := M.e_bind hM
       refine s_call cf84 [.pointer (some ⟨b_w_, 0, none⟩), .agg #[I x.line, B x.back]] rfl (level_survey_goal_ok w__Net_Marks w__Net_Lines x (hC_w__Net_Lines.app _) hs_w__Net_Lines (h_b_w_.app _) hx53z _ (St.give (T := [cBlk b_7 [I x.line, B x.back] 91, cBlk b_3 [I s] 3, cBlk b_2 (List.flatten [[], encF (α := Int) s2, encF (α := Leg) s3, encF (α := Bool) s4]) 164, cMk (D46z :: Ds25z), cBlk nb0_5 [.pointer (some ⟨b_w_, 0, none⟩)] 111, cBlk nb1_6 [I r10] 3, cBlk b_4 [I (s5 : Int)] 3, cBlk b_1 [.pointer (some ⟨b_w_, 0, none⟩)] 111]) H rfl)) ?_
       rintro vq w55z ⟨r2, hr56z, hvq, H2_⟩
       subst hr56z
       subst vq
       try dsimp only at hM
       replace H : St w w55z [cBlk b_7 [I x.line, B x.back] 91, cBlk b_3 [I s] 3, cBlk b_2 (List.flatten [[], encF (α := Int) s2, encF (α := Leg) s3, encF (α := Bool) s4]) 164, cMk (D46z :: Ds25z), cBlk nb0_5 [.pointer (some ⟨b_w_, 0, none⟩)] 111, cBlk nb1_6 [I r10] 3, cBlk b_4 [I (s5 : Int)] 3, cBlk b_1 [.pointer (some ⟨b_w_, 0, none⟩)] 111] R := H.back H2_ rfl
       clear H2_
       refine s_nil ⟨(H.pick [0, 1, 2, 3, 4, 5, 6, 7] (by decide) rfl), ?_⟩
       refine d_l rfl ?_
       obtain ⟨r58z, hx57z, hM⟩ := M.e_bind hM
       refine s_call cf85 [.pointer (some ⟨b_w_, 0, none⟩), .agg #[I x.line, B x.back]] rfl (level_survey_rise_ok w__Net_Marks w__Net_Lines x (hC_w__Net_Lines.app _) hs_w__Net_Lines (h_b_w_.app _) hx57z _ (St.give (T := [cBlk b_7 [I x.line, B x.back] 91, cBlk b_3 [I s] 3, cBlk b_2 (List.flatten [[], encF (α := Int) s2, encF (α := Leg) s3, encF (α := Bool) s4]) 164, cMk (D46z :: Ds25z), cBlk nb0_5 [.pointer (some ⟨b_w_, 0, none⟩)] 111, cBlk nb1_6 [I r10] 3, cBlk b_4 [I (s5 : Int)] 3, cBlk b_1 [.pointer (some ⟨b_w_, 0, none⟩)] 111]) H rfl)) ?_
       rintro vq w59z ⟨r3, hr60z, hvq, H2_⟩
       subst hr60z
       subst vq
       try dsimp only at hM
       replace H : St w w59z [cBlk b_7 [I x.line, B x.back] 91, cBlk b_3 [I s] 3, cBlk b_2 (List.flatten [[], encF (α := Int) s2, encF (α := Leg) s3, encF (α := Bool) s4]) 164, cMk (D46z :: Ds25z), cBlk nb0_5 [.pointer (some ⟨b_w_, 0, none⟩)] 111, cBlk nb1_6 [I r10] 3, cBlk b_4 [I (s5 : Int)] 3, cBlk b_1 [.pointer (some ⟨b_w_, 0, none⟩)] 111] R := H.back H2_ rfl
       clear H2_
       refine s_nil ⟨(H.pick [0, 1, 2, 3, 4, 5, 6, 7] (by decide) rfl), ?_⟩
       obtain ⟨sd61z, hM⟩ := M.e_grd hM
       simp only [Bool.and_eq_true, decide_eq_true_eq] at sd61z
       refine d_q rfl (fun w' H => x_ari (a := s2.getD s5 0) (b := r3) (r := (s2.getD s5 0) + r3) rfl rfl rfl (by omega)) ?_
       refine d_q rfl (fun w' H => x_as (v := I r2) rfl) ?_
       refine d_q rfl (fun w' H => x_as (v := I ((s2.getD s5 0) + r3)) rfl) ?_
       refine d_nil ?_
       refine W.seq ?_
       refine W.region rfl ?_
       refine s_val (x_mv (v := I r2) rfl) ?_
       refine s_val (x_fa (a := .pointer (some ⟨b_2, 0, none⟩)) (v := .pointer (some ⟨b_2, 39, none⟩)) rfl (fa_blk (o := 0) Fd164_2 Sz162)) ?_
       obtain ⟨sd62z, hM⟩ := M.e_grd hM
       simp only [Bool.and_eq_true, decide_eq_true_eq] at sd62z
       refine s_val (x_ix (a := .pointer (some ⟨b_2, 39, none⟩)) (b := I r2) (v := .pointer (some ⟨b_2, 39 + Int.toNat r2 * 1, none⟩)) rfl rfl (run_indexS Try.underlying162 Sz4 (by omega) (by omega))) ?_
       refine s_val (x_ld (p := .pointer (some ⟨b_2, 39 + Int.toNat r2 * 1, none⟩)) (v := B (s4.getD (Int.toNat r2) false)) rfl (ldS (α := Bool) (k := 3) (off := 39) (i := (Int.toNat r2)) (f := 0) (sz := 1) false Sc4 (H.blk (k := 2) rfl) rfl (sgo3 hl_s2 hl_s3 rfl) rfl (by decide) (by have hl_ := hl_s4; omega) (by omega) rfl)) ?_
       refine s_val (x_not (b := s4.getD (Int.toNat r2) false) rfl) ?_
       refine s_val (x_mv (v := B (!(s4.getD (Int.toNat r2) false))) rfl) ?_
       refine g_val (!(!(s4.getD (Int.toNat r2) false))) (gy_f rfl) (fun hg => x_mv (v := I ((s2.getD s5 0) + r3)) rfl) ?_
       refine g_val (!(!(s4.getD (Int.toNat r2) false))) (gy_f rfl) (fun hg => x_mv (v := I r2) rfl) ?_
       refine g_val (!(!(s4.getD (Int.toNat r2) false))) (gy_f rfl) (fun hg => x_fa (a := .pointer (some ⟨b_2, 0, none⟩)) (v := .pointer (some ⟨b_2, 0, none⟩)) rfl (fa_blk (o := 0) Fd164_0 Sz114)) ?_
       refine g_val (!(!(s4.getD (Int.toNat r2) false))) (gy_f rfl) (fun hg => x_ix (a := .pointer (some ⟨b_2, 0, none⟩)) (b := I r2) (v := .pointer (some ⟨b_2, 0 + Int.toNat r2 * 1, none⟩)) (gd_of (c := !(!(s4.getD (Int.toNat r2) false))) hg (.pointer (some ⟨b_2, 0, none⟩))) (gd_of (c := !(!(s4.getD (Int.toNat r2) false))) hg (I r2)) (run_indexS Try.underlying114 Sz3 (by first | omega | (have hx_ := hg; simp at hx_; omega)) (by first | omega | (have hx_ := hg; simp at hx_; omega)))) ?_
       refine g_val (!(!(s4.getD (Int.toNat r2) false))) (gy_f rfl) (fun hg => x_ld (p := .pointer (some ⟨b_2, 0 + Int.toNat r2 * 1, none⟩)) (v := I (s2.getD (Int.toNat r2) 0)) (gd_of (c := !(!(s4.getD (Int.toNat r2) false))) hg (.pointer (some ⟨b_2, 0 + Int.toNat r2 * 1, none⟩))) (ldS (α := Int) (k := 1) (off := 0) (i := (Int.toNat r2)) (f := 0) (sz := 1) 0 Sc3 (H.blk (k := 2) rfl) rfl (sgo1 rfl) rfl (by decide) (by have hl_ := hl_s2; first | omega | (have hx_ := hg; simp at hx_; omega)) (by omega) rfl)) ?_
       refine g_val (!(!(s4.getD (Int.toNat r2) false))) (gy_f rfl) (fun hg => x_cmp (kd := .i64) (a := (s2.getD s5 0) + r3) (b := s2.getD (Int.toNat r2) 0) (r := decide (((s2.getD s5 0) + r3) < (s2.getD (Int.toNat r2) 0))) (gd_of (c := !(!(s4.getD (Int.toNat r2) false))) hg (I ((s2.getD s5 0) + r3))) (gd_of (c := !(!(s4.getD (Int.toNat r2) false))) hg (I (s2.getD (Int.toNat r2) 0))) rfl) ?_
       refine s_val (x_por (b := !(s4.getD (Int.toNat r2) false)) (r := decide (((s2.getD s5 0) + r3) < (s2.getD (Int.toNat r2) 0))) rfl rfl (fun hb => gd_of (c := !(!(s4.getD (Int.toNat r2) false))) (by first | exact hb | (rw [hb]; rfl) | simp_all) (B (decide (((s2.getD s5 0) + r3) < (s2.getD (Int.toNat r2) 0)))))) ?_
       refine s_nil ?_
       refine W.cond ((!(s4.getD (Int.toNat r2) false)) || (decide (((s2.getD s5 0) + r3) < (s2.getD (Int.toNat r2) 0)))) rfl (fun c63z => ?_) (fun c63z => ?_)
       ·replace hM := M.e_t hM c63z
        refine W.seq ?_
        refine W.draw (fun W => St w W [cBlk b_7 [I x.line, B x.back] 91, cBlk b_3 [I s] 3, cMk (D46z :: Ds25z), cBlk nb0_5 [.pointer (some ⟨b_w_, 0, none⟩)] 111, cBlk nb1_6 [I r10] 3, cBlk b_4 [I (s5 : Int)] 3, cBlk b_1 [.pointer (some ⟨b_w_, 0, none⟩)] 111] R) [(0, true), (1, true), (2, true), (3, true), (4, true), (5, true), (6, true), (8, true), (11, true), (7, false), (9, true), (10, false), (12, true), (13, false)] mixed (by decide +kernel) rfl ?_
        intro w64z hx_
        replace H : St w w64z [cBlk b_7 [I x.line, B x.back] 91, cBlk b_3 [I s] 3, cBlk b_2 (List.flatten [[], encF (α := Int) s2, encF (α := Leg) s3, encF (α := Bool) s4]) 164, cMk (D46z :: Ds25z), cBlk nb0_5 [.pointer (some ⟨b_w_, 0, none⟩)] 111, cBlk nb1_6 [I r10] 3, cBlk b_4 [I (s5 : Int)] 3, cBlk b_1 [.pointer (some ⟨b_w_, 0, none⟩)] 111] R := H.ext hx_
        clear hx_
        refine ⟨(H.pick [0, 1, 3, 4, 5, 6, 7] (by decide) rfl), ?_⟩
        refine d_q rfl (fun w' H => x_mv (v := I r2) rfl) ?_
        refine d_q rfl (fun w' H => x_mv (v := I r2) rfl) ?_
        refine d_q rfl (fun w' H => x_mv (v := I r2) rfl) ?_
        refine d_q rfl (fun w' H => x_mv (v := I ((s2.getD s5 0) + r3)) rfl) ?_
        refine d_q rfl (fun w' H => x_ld (p := .pointer (some ⟨b_7, 0, none⟩)) (v := .agg #[I x.line, B x.back]) rfl (ldb_ag (ds := [I x.line, B x.back]) Ag91 Sz91 (H.blk (k := 0) rfl) rfl rfl)) ?_
        refine d_q rfl (fun w' H => x_fa (a := .pointer (some ⟨b_2, 0, none⟩)) (v := .pointer (some ⟨b_2, 39, none⟩)) rfl (fa_blk (o := 0) Fd164_2 Sz162)) ?_
        refine d_q rfl (fun w' H => x_ix (a := .pointer (some ⟨b_2, 39, none⟩)) (b := I r2) (v := .pointer (some ⟨b_2, 39 + Int.toNat r2 * 1, none⟩)) rfl rfl (run_indexS Try.underlying162 Sz4 (by omega) (by omega))) ?_
        refine d_q rfl (fun w' H => x_fa (a := .pointer (some ⟨b_2, 0, none⟩)) (v := .pointer (some ⟨b_2, 0, none⟩)) rfl (fa_blk (o := 0) Fd164_0 Sz114)) ?_
        refine d_q rfl (fun w' H => x_fa (a := .pointer (some ⟨b_2, 0, none⟩)) (v := .pointer (some ⟨b_2, 13, none⟩)) rfl (fa_blk (o := 0) Fd164_1 Sz117)) ?_
        refine d_l rfl ?_
        refine t_stS (α := Bool) (kc := 2) (b := b_2) (k := 3) (off := 39) (i := (Int.toNat r2)) (f := 0) (sz := 1) (segs := [[], encF (α := Int) s2, encF (α := Leg) s3, encF (α := Bool) s4]) (segs' := [[], encF (α := Int) s2, encF (α := Leg) s3, encF (α := Bool) (s4.set (Int.toNat r2) true)]) (l := s4) (l' := s4.set (Int.toNat r2) true) (vs := [B true]) (L' := [cBlk b_7 [I x.line, B x.back] 91, cBlk b_3 [I s] 3, cBlk b_2 (List.flatten [[], encF (α := Int) s2, encF (α := Leg) s3, encF (α := Bool) (s4.set (Int.toNat r2) true)]) 164, cMk (D46z :: Ds25z), cBlk nb0_5 [.pointer (some ⟨b_w_, 0, none⟩)] 111, cBlk nb1_6 [I r10] 3, cBlk b_4 [I (s5 : Int)] 3, cBlk b_1 [.pointer (some ⟨b_w_, 0, none⟩)] 111]) H rfl rfl rfl Sz4 rfl rfl rfl rfl (sgo3 hl_s2 hl_s3 rfl) rfl rfl (by have hl_ := hl_s4; omega) (by omega) false true rfl rfl rfl rfl ?_
        intro w65z H
        have hl66z : (s4.set (Int.toNat r2) true).length = 13 := List.length_set.trans hl_s4
        refine s_nil ⟨(H.pick [0, 1, 3, 4, 5, 6, 7] (by decide) rfl), ?_⟩
        refine d_q rfl (fun w' H => x_ix (a := .pointer (some ⟨b_2, 0, none⟩)) (b := I r2) (v := .pointer (some ⟨b_2, 0 + Int.toNat r2 * 1, none⟩)) rfl rfl (run_indexS Try.underlying114 Sz3 (by omega) (by omega))) ?_
        refine d_l rfl ?_
        refine t_stS (α := Int) (kc := 2) (b := b_2) (k := 1) (off := 0) (i := (Int.toNat r2)) (f := 0) (sz := 1) (segs := [[], encF (α := Int) s2, encF (α := Leg) s3, encF (α := Bool) (s4.set (Int.toNat r2) true)]) (segs' := [[], encF (α := Int) (s2.set (Int.toNat r2) ((s2.getD s5 0) + r3)), encF (α := Leg) s3, encF (α := Bool) (s4.set (Int.toNat r2) true)]) (l := s2) (l' := s2.set (Int.toNat r2) ((s2.getD s5 0) + r3)) (vs := [I ((s2.getD s5 0) + r3)]) (L' := [cBlk b_7 [I x.line, B x.back] 91, cBlk b_3 [I s] 3, cBlk b_2 (List.flatten [[], encF (α := Int) (s2.set (Int.toNat r2) ((s2.getD s5 0) + r3)), encF (α := Leg) s3, encF (α := Bool) (s4.set (Int.toNat r2) true)]) 164, cMk (D46z :: Ds25z), cBlk nb0_5 [.pointer (some ⟨b_w_, 0, none⟩)] 111, cBlk nb1_6 [I r10] 3, cBlk b_4 [I (s5 : Int)] 3, cBlk b_1 [.pointer (some ⟨b_w_, 0, none⟩)] 111]) H rfl rfl rfl Sz3 rfl rfl rfl rfl (sgo1 rfl) rfl rfl (by have hl_ := hl_s2; omega) (by omega) 0 ((s2.getD s5 0) + r3) rfl rfl rfl rfl ?_
        intro w67z H
        have hl68z : (s2.set (Int.toNat r2) ((s2.getD s5 0) + r3)).length = 13 := List.length_set.trans hl_s2
        refine s_nil ⟨(H.pick [0, 1, 3, 4, 5, 6, 7] (by decide) rfl), ?_⟩
        refine d_q rfl (fun w' H => x_ix (a := .pointer (some ⟨b_2, 13, none⟩)) (b := I r2) (v := .pointer (some ⟨b_2, 13 + Int.toNat r2 * 2, none⟩)) rfl rfl (run_indexS Try.underlying117 Sz91 (by omega) (by omega))) ?_
        refine d_l rfl ?_
        refine t_stS (α := Leg) (kc := 2) (b := b_2) (k := 2) (off := 13) (i := (Int.toNat r2)) (f := 0) (sz := 2) (segs := [[], encF (α := Int) (s2.set (Int.toNat r2) ((s2.getD s5 0) + r3)), encF (α := Leg) s3, encF (α := Bool) (s4.set (Int.toNat r2) true)]) (segs' := [[], encF (α := Int) (s2.set (Int.toNat r2) ((s2.getD s5 0) + r3)), encF (α := Leg) (s3.set (Int.toNat r2) x), encF (α := Bool) (s4.set (Int.toNat r2) true)]) (l := s3) (l' := s3.set (Int.toNat r2) x) (vs := [I x.line, B x.back]) (L' := [cBlk b_7 [I x.line, B x.back] 91, cBlk b_3 [I s] 3, cBlk b_2 (List.flatten [[], encF (α := Int) (s2.set (Int.toNat r2) ((s2.getD s5 0) + r3)), encF (α := Leg) (s3.set (Int.toNat r2) x), encF (α := Bool) (s4.set (Int.toNat r2) true)]) 164, cMk (D46z :: Ds25z), cBlk nb0_5 [.pointer (some ⟨b_w_, 0, none⟩)] 111, cBlk nb1_6 [I r10] 3, cBlk b_4 [I (s5 : Int)] 3, cBlk b_1 [.pointer (some ⟨b_w_, 0, none⟩)] 111]) H rfl rfl rfl Sz91 rfl rfl rfl rfl (sgo2 hl68z rfl) rfl rfl (by have hl_ := hl_s3; omega) (by omega) default x rfl rfl rfl rfl ?_
        intro w69z H
        have hl70z : (s3.set (Int.toNat r2) x).length = 13 := List.length_set.trans hl_s3
        refine s_nil ⟨(H.pick [0, 1, 3, 4, 5, 6, 7] (by decide) rfl), ?_⟩
        refine d_nil ?_
        refine W.region rfl ?_
        refine s_val (x_mv (v := I r2) rfl) ?_
        refine t_st (k := 1) (b := b_3) (off := 0) (cs := [I s]) (vs := [I r2]) (cs' := [I r2]) (v := I r2) (L' := [cBlk b_7 [I x.line, B x.back] 91, cBlk b_3 [I r2] 3, cBlk b_2 (List.flatten [[], encF (α := Int) (s2.set (Int.toNat r2) ((s2.getD s5 0) + r3)), encF (α := Leg) (s3.set (Int.toNat r2) x), encF (α := Bool) (s4.set (Int.toNat r2) true)]) 164, cMk (D46z :: Ds25z), cBlk nb0_5 [.pointer (some ⟨b_w_, 0, none⟩)] 111, cBlk nb1_6 [I r10] 3, cBlk b_4 [I (s5 : Int)] 3, cBlk b_1 [.pointer (some ⟨b_w_, 0, none⟩)] 111]) H rfl rfl rfl Sz3 rfl rfl rfl rfl rfl rfl ?_
        intro w71z H
        refine s_nil ?_
        exact ⟨(r2, s2.set (Int.toNat r2) ((s2.getD s5 0) + r3), s3.set (Int.toNat r2) x, s4.set (Int.toNat r2) true), [cBlk b_3 [I r2] 3, cBlk b_2 (List.flatten [[], encF (α := Int) (s2.set (Int.toNat r2) ((s2.getD s5 0) + r3)), encF (α := Leg) (s3.set (Int.toNat r2) x), encF (α := Bool) (s4.set (Int.toNat r2) true)]) 164], (M.e_pure hM).symm, ⟨rfl, hl68z, hl70z, hl66z⟩, H.pick [1, 2, 3, 4, 5, 6, 7] (by decide) rfl⟩
       ·replace hM := M.e_f hM c63z
        refine W.skip ?_
        exact ⟨(s, s2, s3, s4), [cBlk b_3 [I s] 3, cBlk b_2 (List.flatten [[], encF (α := Int) s2, encF (α := Leg) s3, encF (α := Bool) s4]) 164], (M.e_pure hM).symm, ⟨rfl, hl_s2, hl_s3, hl_s4⟩, H.pick [1, 2, 3, 4, 5, 6, 7] (by decide) rfl⟩
      replace H : St w w48z (cAll (cObj l45z (.loop r47z) :: [cBlk b_3 [I s9] 3, cBlk b_2 (List.flatten [[], encF (α := Int) s6, encF (α := Leg) s7, encF (α := Bool) s8]) 164]) :: [cMk (D46z :: Ds25z), cBlk nb0_5 [.pointer (some ⟨b_w_, 0, none⟩)] 111, cBlk nb1_6 [I r10] 3, cBlk b_4 [I (s5 : Int)] 3, cBlk b_1 [.pointer (some ⟨b_w_, 0, none⟩)] 111]) R := St.bundleB (A := cObj l45z (.loop r47z) :: [cBlk b_3 [I s9] 3, cBlk b_2 (List.flatten [[], encF (α := Int) s6, encF (α := Leg) s7, encF (α := Bool) s8]) 164]) (T := [cMk (D46z :: Ds25z), cBlk nb0_5 [.pointer (some ⟨b_w_, 0, none⟩)] 111, cBlk nb1_6 [I r10] 3, cBlk b_4 [I (s5 : Int)] 3, cBlk b_1 [.pointer (some ⟨b_w_, 0, none⟩)] 111]) rfl (H.pick [0, 2, 3, 1, 4, 5, 6, 7] (by decide) rfl)
      refine (level_survey_legs_1_ok (M.yl (m_level_survey_sinking_b4 w__Net_Marks w__Net_Lines s5)) (.inl (s9, s6, s7, s8)) w__Net_Marks w__Net_Lines r10 hYC ⟨_, rfl, ⟨rfl, hl_s6, hl_s7, hl_s8⟩⟩ (hC_w__Net_Lines.app _) hs_w__Net_Lines (fun _ _ _ => Fld.cons (h_b_w_.app _) _) (Has.here (k := 1) rfl) (Has.here (k := 2) rfl) hx44z _ (St.give (A := [cAll (cObj l45z (.loop r47z) :: [cBlk b_3 [I s9] 3, cBlk b_2 (List.flatten [[], encF (α := Int) s6, encF (α := Leg) s7, encF (α := Bool) s8]) 164])]) (T := [cMk (D46z :: Ds25z), cBlk nb0_5 [.pointer (some ⟨b_w_, 0, none⟩)] 111, cBlk nb1_6 [I r10] 3, cBlk b_4 [I (s5 : Int)] 3, cBlk b_1 [.pointer (some ⟨b_w_, 0, none⟩)] 111]) H rfl)).mono ?_
      rintro vq w72z ⟨t76z, Ls74z, hq77z, hvq, H2_, hY75z⟩
      subst hq77z
      replace H := H.back H2_ rfl
      clear H2_ hYC
      rcases t76z with ⟨s, s2, s3, s4⟩ | _
      ·try dsimp only at hM
       obtain ⟨_, rfl, rfl, hl_s2, hl_s3, hl_s4⟩ := hY75z
       refine ⟨_, [cBlk b_3 [I s] 3, cBlk b_2 (List.flatten [[], encF (α := Int) s2, encF (α := Leg) s3, encF (α := Bool) s4]) 164, cBlk nb0_5 [.pointer (some ⟨b_w_, 0, none⟩)] 111, cBlk nb1_6 [I r10] 3, cBlk b_4 [I (s5 : Int)] 3, cBlk b_1 [.pointer (some ⟨b_w_, 0, none⟩)] 111], H.unbundle.pick [0, 3, 1, 2, 4, 5, 6, 7] (by decide) rfl, hr49z.nb, ?_⟩
       intro w73z H
       rw [hr49z.pd]
       replace H : St w w73z [cMk (D46z :: Ds25z), cBlk b_3 [I s] 3, cBlk b_2 (List.flatten [[], encF (α := Int) s2, encF (α := Leg) s3, encF (α := Bool) s4]) 164, cBlk nb0_5 [.pointer (some ⟨b_w_, 0, none⟩)] 111, cBlk nb1_6 [I r10] 3, cBlk b_4 [I (s5 : Int)] 3, cBlk b_1 [.pointer (some ⟨b_w_, 0, none⟩)] 111] R := H
       try simp only []
       refine WD.of ?_
       refine W.region rfl ?_
       obtain ⟨sd78z, hM⟩ := M.e_grd hM
       simp only [Bool.and_eq_true, decide_eq_true_eq] at sd78z
       refine s_val (x_ari (a := (s5 : Int)) (b := 1) (r := (s5 : Int) + 1) rfl rfl rfl (by omega)) ?_
       refine s_val (x_mv (v := I ((s5 : Int) + 1)) rfl) ?_
       refine s_nil ?_
       exact ⟨m29z, lt30z, s5 + 1, s2, s3, s4, s, _, upds_of _ _ ⟨rfl, rfl, rfl, rfl, rfl, rfl, rfl, trivial⟩, M.e_inl hM hN32z, (H.pick [1, 2, 6, 0] (by decide) rfl), hl_s2, hl_s3, hl_s4⟩
      ·obtain ⟨_, _, h_⟩ := hY75z; exact h_.elim
    ·replace hM := M.e_f hM c33z
     simp only [decide_eq_true_eq, decide_eq_false_iff_not, beq_iff_eq, bne_iff_ne, beq_eq_false_iff_ne, bne_eq_false_iff_eq, ne_eq, Decidable.not_not] at c33z
     refine WD.of ?_
     refine W.exit ?_
     have hX79z := M.e_inr hM hN32z
     subst hX79z
     replace hM := hk24z
     try dsimp only at hM
     refine WD.of ?_
     refine W.region rfl ?_
     obtain ⟨sd80z, hM⟩ := M.e_grd hM
     simp only [Bool.and_eq_true, decide_eq_true_eq] at sd80z
     refine s_val (x_ari (a := (s15 : Int)) (b := 1) (r := (s15 : Int) + 1) rfl rfl rfl (by omega)) ?_
     refine s_val (x_mv (v := I ((s15 : Int) + 1)) rfl) ?_
     refine s_nil ?_
     exact ⟨m16z, lt17z, s6, s7, s8, s9, s15 + 1, _, upds_of _ _ ⟨rfl, rfl, rfl, rfl, rfl, trivial⟩, M.e_inl hM hN19z, H, hl_s6, hl_s7, hl_s8⟩
  ·replace hM := M.e_f hM c20z
   simp only [decide_eq_true_eq, decide_eq_false_iff_not, beq_iff_eq, bne_iff_ne, beq_eq_false_iff_ne, bne_eq_false_iff_eq, ne_eq, Decidable.not_not] at c20z
   refine WD.of ?_
   refine W.exit ?_
   have hX81z := M.e_inr hM hN19z
   subst hX81z
   replace hM := hk11z
   try dsimp only at hM
   refine WD.seq ?_
   refine WD.seq ?_
   refine WD.of ?_
   refine W.region rfl ?_
   refine s_val (x_ld (p := .pointer (some ⟨b_3, 0, none⟩)) (v := I s14) rfl (ldb_sc Sc3 (H.blk (k := 0) rfl) rfl)) ?_
   refine s_val (x_cmp (kd := .i64) (a := s14) (b := -1) (r := s14 == (-1)) rfl rfl rfl) ?_
   refine s_nil ?_
   refine WD.cond (s14 == (-1)) rfl (fun c82z => ?_) (fun c82z => ?_)
   ·replace hM := M.e_t hM c82z
    simp only [decide_eq_true_eq, decide_eq_false_iff_not, beq_iff_eq, bne_iff_ne, beq_eq_false_iff_ne, bne_eq_false_iff_eq, ne_eq, Decidable.not_not] at c82z
    refine WD.seq ?_
    refine WD.of ?_
    refine W.region rfl ?_
    refine s_val (x_as (v := .slice none 0 0) rfl) ?_
    refine s_nil ?_
    refine WD.of ?_
    refine W.ret ?_
    refine bodyD_r (H.pick [3, 0, 1, 2] (by decide) rfl) ?_
    intro w83z H
    replace H : St w w83z [cBlk b_3 [I s14] 3, cBlk b_2 (List.flatten [[], encF (α := Int) s11, encF (α := Leg) s12, encF (α := Bool) s13]) 164, cBlk b_1 [.pointer (some ⟨b_w_, 0, none⟩)] 111] R := H
    have hr_ := M.e_pure hM
    replace H : St w w83z [cOwn (α := Leg) 91 (.slice none 0 0) ([]), cBlk b_3 [I s14] 3, cBlk b_2 (List.flatten [[], encF (α := Int) s11, encF (α := Leg) s12, encF (α := Bool) s13]) 164, cBlk b_1 [.pointer (some ⟨b_w_, 0, none⟩)] 111] R := H.nilOwn (α := Leg) 91
    exact ⟨_, resE_tmp rfl, ⟨([]), (.slice none 0 0), hr_, rfl, (H.pick [0] (by decide) rfl), (fun _ => rfl)⟩⟩
   ·replace hM := M.e_f hM c82z
    simp only [decide_eq_true_eq, decide_eq_false_iff_not, beq_iff_eq, bne_iff_ne, beq_eq_false_iff_ne, bne_eq_false_iff_eq, ne_eq, Decidable.not_not] at c82z
    refine WD.of ?_
    refine W.skip ?_
    refine WD.seq ?_
    refine WD.seq ?_
    refine WD.of ?_
    refine W.region rfl ?_
    refine s_val (x_ld (p := .pointer (some ⟨b_1, 0, none⟩)) (v := .pointer (some ⟨b_w_, 0, none⟩)) rfl (ldb_sc Sc111 (H.blk (k := 2) rfl) rfl)) ?_
    refine s_val (x_nc (a := ⟨b_w_, 0, none⟩) rfl) ?_
    refine s_val (x_fa (a := .pointer (some ⟨b_w_, 0, none⟩)) (v := .pointer (some ⟨b_w_, 0, none⟩)) rfl (fa_blk (o := 0) Fd120_0 Sz25)) ?_
    refine s_val (x_fa (a := .pointer (some ⟨b_w_, 0, none⟩)) (v := .pointer (some ⟨b_w_, 0, none⟩)) rfl (fa_blk (o := 0) Fd25_0 Sz3)) ?_
    refine s_val (x_ld (p := .pointer (some ⟨b_w_, 0, none⟩)) (v := I w__Net_Marks) rfl (fld_sc (pre := [I w__Net_Marks, v_w__Net_Lines]) (i := 0) Sc3 (h_b_w_.at H) rfl)) ?_
    refine s_val (x_mv (v := I 0) rfl) ?_
    refine s_nil ?_
    refine WD.block ?_
    obtain ⟨ex84z, hi85z, hk86z⟩ := M.e_bind hM
    obtain ⟨m0_, hi85z⟩ := M.e_iter hi85z
    refine WD.loop (fun m Ds87z σ W => ∃ (s17 : Int) (s18 : Nat) (ρ : Env), σ = upds ρ [(2, .pointer (some ⟨b_1, 0, none⟩)), (5, .pointer (some ⟨b_2, 0, none⟩)), (6, .pointer (some ⟨b_3, 0, none⟩)), (86, I w__Net_Marks), (87, I (s18 : Int))] /\ M.iterN (m_level_survey_sinking_b7 w__Net_Marks w__Net_Lines s12) m (s17, s18) = some ex84z /\ St w W [cBlk b_3 [I s17] 3, cBlk b_2 (List.flatten [[], encF (α := Int) s11, encF (α := Leg) s12, encF (α := Bool) s13]) 164, cBlk b_1 [.pointer (some ⟨b_w_, 0, none⟩)] 111, cMk Ds87z] R) ?_ ?_
    ·exact ⟨_, s14, 0, _, upds_of _ _ ⟨rfl, rfl, rfl, rfl, rfl, trivial⟩, hi85z, H⟩
    ·rintro m90z Ds87z σ w88z ⟨s17, s18, ρ, rfl, hI89z, H⟩
     obtain ⟨m91z, lt92z, x93z, hM, hN94z⟩ := M.e_iterN hI89z
     simp only [m_level_survey_sinking_b7] at hM
     clear hI89z
     refine WD.seq ?_
     refine WD.of ?_
     refine W.region rfl ?_
     refine s_val (x_cmp (kd := .i64) (a := (s18 : Int)) (b := w__Net_Marks) (r := decide ((s18 : Int) < w__Net_Marks)) rfl rfl rfl) ?_
     refine s_nil ?_
     refine WD.seq ?_
     refine WD.cond (decide ((s18 : Int) < w__Net_Marks)) rfl (fun c95z => ?_) (fun c95z => ?_)
     ·replace hM := M.e_t hM c95z
      simp only [decide_eq_true_eq, decide_eq_false_iff_not, beq_iff_eq, bne_iff_ne, beq_eq_false_iff_ne, bne_eq_false_iff_eq, ne_eq, Decidable.not_not] at c95z
      refine WD.of ?_
      refine W.skip ?_
      refine WD.seq ?_
      refine WD.block ?_
      refine WD.of ?_
      refine W.draw (fun W => St w W [cBlk b_2 (List.flatten [[], encF (α := Int) s11, encF (α := Leg) s12, encF (α := Bool) s13]) 164, cBlk b_1 [.pointer (some ⟨b_w_, 0, none⟩)] 111, cMk Ds87z] R) [(0, true), (2, true), (1, false), (3, true), (4, true), (5, false), (6, false)] mixed (by decide +kernel) rfl ?_
      intro w96z hx_
      replace H : St w w96z [cBlk b_3 [I s17] 3, cBlk b_2 (List.flatten [[], encF (α := Int) s11, encF (α := Leg) s12, encF (α := Bool) s13]) 164, cBlk b_1 [.pointer (some ⟨b_w_, 0, none⟩)] 111, cMk Ds87z] R := H.ext hx_
      clear hx_
      refine ⟨(H.pick [1, 2, 3] (by decide) rfl), ?_⟩
      refine d_q rfl (fun w' H => x_ld (p := .pointer (some ⟨b_1, 0, none⟩)) (v := .pointer (some ⟨b_w_, 0, none⟩)) rfl (ldb_sc Sc111 (H.blk (k := 1) rfl) rfl)) ?_
      refine d_q rfl (fun w' H => x_fa (a := .pointer (some ⟨b_2, 0, none⟩)) (v := .pointer (some ⟨b_2, 13, none⟩)) rfl (fa_blk (o := 0) Fd164_1 Sz117)) ?_
      refine d_l rfl ?_
      refine s_val (x_ld (p := .pointer (some ⟨b_3, 0, none⟩)) (v := I s17) rfl (ldb_sc Sc3 (H.blk (k := 0) rfl) rfl)) ?_
      refine s_nil ⟨(H.pick [1, 2, 3] (by decide) rfl), ?_⟩
      obtain ⟨sd97z, hM⟩ := M.e_grd hM
      simp only [Bool.and_eq_true, decide_eq_true_eq] at sd97z
      refine d_q rfl (fun w' H => x_ix (a := .pointer (some ⟨b_2, 13, none⟩)) (b := I s17) (v := .pointer (some ⟨b_2, 13 + Int.toNat s17 * 2, none⟩)) rfl rfl (run_indexS Try.underlying117 Sz91 (by omega) (by omega))) ?_
      refine d_q rfl (fun w' H => x_ld (p := .pointer (some ⟨b_2, 13 + Int.toNat s17 * 2, none⟩)) (v := .agg #[I ((s12.getD (Int.toNat s17) default).line), B ((s12.getD (Int.toNat s17) default).back)]) rfl (ldSA (α := Leg) (k := 2) (off := 13) (i := (Int.toNat s17)) (sz := 2) default Ag91 Sz91 (H.blk (k := 0) rfl) rfl (sgo2 hl_s11 rfl) rfl (by have hl_ := hl_s12; omega) (by omega) rfl)) ?_
      refine d_l rfl ?_
      obtain ⟨r99z, hx98z, hM⟩ := M.e_bind hM
      refine s_call cf83 [.pointer (some ⟨b_w_, 0, none⟩), .agg #[I ((s12.getD (Int.toNat s17) default).line), B ((s12.getD (Int.toNat s17) default).back)]] rfl (level_survey_start_ok w__Net_Marks w__Net_Lines (s12.getD (Int.toNat s17) default) (hC_w__Net_Lines.app _) hs_w__Net_Lines (h_b_w_.app _) hx98z _ (St.give (T := [cBlk b_3 [I s17] 3, cBlk b_2 (List.flatten [[], encF (α := Int) s11, encF (α := Leg) s12, encF (α := Bool) s13]) 164, cBlk b_1 [.pointer (some ⟨b_w_, 0, none⟩)] 111, cMk Ds87z]) H rfl)) ?_
      rintro vq w100z ⟨r4, hr101z, hvq, H2_⟩
      subst hr101z
      subst vq
      try dsimp only at hM
      replace H : St w w100z [cBlk b_3 [I s17] 3, cBlk b_2 (List.flatten [[], encF (α := Int) s11, encF (α := Leg) s12, encF (α := Bool) s13]) 164, cBlk b_1 [.pointer (some ⟨b_w_, 0, none⟩)] 111, cMk Ds87z] R := H.back H2_ rfl
      clear H2_
      refine s_nil ⟨(H.pick [1, 2, 3] (by decide) rfl), ?_⟩
      refine d_l rfl ?_
      refine t_st (k := 0) (b := b_3) (off := 0) (cs := [I s17]) (vs := [I r4]) (cs' := [I r4]) (v := I r4) (L' := [cBlk b_3 [I r4] 3, cBlk b_2 (List.flatten [[], encF (α := Int) s11, encF (α := Leg) s12, encF (α := Bool) s13]) 164, cBlk b_1 [.pointer (some ⟨b_w_, 0, none⟩)] 111, cMk Ds87z]) H rfl rfl rfl Sz3 rfl rfl rfl rfl rfl rfl ?_
      intro w102z H
      refine s_nil ⟨(H.pick [1, 2, 3] (by decide) rfl), ?_⟩
      refine d_nil ?_
      refine WD.of ?_
      refine W.region rfl ?_
      obtain ⟨sd103z, hM⟩ := M.e_grd hM
      simp only [Bool.and_eq_true, decide_eq_true_eq] at sd103z
      refine s_val (x_ari (a := (s18 : Int)) (b := 1) (r := (s18 : Int) + 1) rfl rfl rfl (by omega)) ?_
      refine s_val (x_mv (v := I ((s18 : Int) + 1)) rfl) ?_
      refine s_nil ?_
      exact ⟨m91z, lt92z, r4, s18 + 1, _, upds_of _ _ ⟨rfl, rfl, rfl, rfl, rfl, trivial⟩, M.e_inl hM hN94z, H⟩
     ·replace hM := M.e_f hM c95z
      simp only [decide_eq_true_eq, decide_eq_false_iff_not, beq_iff_eq, bne_iff_ne, beq_eq_false_iff_ne, bne_eq_false_iff_eq, ne_eq, Decidable.not_not] at c95z
      refine WD.of ?_
      refine W.exit ?_
      have hX104z := M.e_inr hM hN94z
      subst hX104z
      replace hM := hk86z
      try dsimp only at hM
      refine WD.seq ?_
      refine WD.of ?_
      refine W.region rfl ?_
      refine s_val (x_as (v := .slice none 0 0) rfl) ?_
      refine s_nil ?_
      refine WD.seq ?_
      refine WD.seq ?_
      refine WD.of ?_
      refine W.region rfl ?_
      refine s_val (x_ld (p := .pointer (some ⟨b_3, 0, none⟩)) (v := I s17) rfl (ldb_sc Sc3 (H.blk (k := 0) rfl) rfl)) ?_
      refine s_val (x_as (v := I s17) rfl) ?_
      refine s_nil ?_
      refine WD.block ?_
      replace H : St w w88z [cOwn (α := Leg) 91 (.slice none 0 0) ([]), cBlk b_3 [I s17] 3, cBlk b_2 (List.flatten [[], encF (α := Int) s11, encF (α := Leg) s12, encF (α := Bool) s13]) 164, cBlk b_1 [.pointer (some ⟨b_w_, 0, none⟩)] 111, cMk Ds87z] R := H.nilOwn (α := Leg) 91
      obtain ⟨ex105z, hi106z, hk107z⟩ := M.e_bind hM
      obtain ⟨m0_, hi106z⟩ := M.e_iter hi106z
      refine WD.loop (fun m Ds108z σ W => ∃ (mark : Int) (l7 : List Leg) (v_l7 : Value) (ρ : Env), σ = upds ρ [(2, .pointer (some ⟨b_1, 0, none⟩)), (5, .pointer (some ⟨b_2, 0, none⟩)), (6, .pointer (some ⟨b_3, 0, none⟩)), (11, v_l7), (12, I mark)] /\ M.iterN (m_level_survey_sinking_b8 w__Net_Marks w__Net_Lines s12 s17) m (mark, l7) = some ex105z /\ St w W [cOwn (α := Leg) 91 v_l7 l7, cBlk b_3 [I s17] 3, cBlk b_2 (List.flatten [[], encF (α := Int) s11, encF (α := Leg) s12, encF (α := Bool) s13]) 164, cBlk b_1 [.pointer (some ⟨b_w_, 0, none⟩)] 111, cMk Ds108z] R) ?_ ?_
      ·exact ⟨_, s17, [], (.slice none 0 0), _, upds_of _ _ ⟨rfl, rfl, rfl, rfl, rfl, trivial⟩, hi106z, H⟩
      ·rintro m111z Ds108z σ w109z ⟨mark, l7, v_l7, ρ, rfl, hI110z, H⟩
       obtain ⟨m112z, lt113z, x114z, hM, hN115z⟩ := M.e_iterN hI110z
       simp only [m_level_survey_sinking_b8] at hM
       clear hI110z
       refine WD.seq ?_
       refine WD.seq ?_
       refine WD.of ?_
       refine W.region rfl ?_
       refine s_val (x_mv (v := v_l7) rfl) ?_
       have hl116z := ((ownSl (H.get (k := 0) rfl))).len_le
       refine s_val (x_lenS T88.und rfl (ownSl (H.get (k := 0) rfl))) ?_
       refine s_val (x_cmp (kd := .i64) (a := (l7.length : Int)) (b := 0) (r := (l7.length : Int) == 0) rfl rfl rfl) ?_
       refine s_val (x_mv (v := B ((l7.length : Int) == 0)) rfl) ?_
       refine g_val (!((l7.length : Int) == 0)) (gy_f rfl) (fun hg => x_mv (v := I mark) rfl) ?_
       refine g_val (!((l7.length : Int) == 0)) (gy_f rfl) (fun hg => x_ld (p := .pointer (some ⟨b_3, 0, none⟩)) (v := I s17) rfl (ldb_sc Sc3 (H.blk (k := 1) rfl) rfl)) ?_
       refine g_val (!((l7.length : Int) == 0)) (gy_f rfl) (fun hg => x_cmp (kd := .i64) (a := mark) (b := s17) (r := mark != s17) (gd_of (c := !((l7.length : Int) == 0)) hg (I mark)) (gd_of (c := !((l7.length : Int) == 0)) hg (I s17)) rfl) ?_
       refine s_val (x_por (b := (l7.length : Int) == 0) (r := mark != s17) rfl rfl (fun hb => gd_of (c := !((l7.length : Int) == 0)) (by first | exact hb | (rw [hb]; rfl) | simp_all) (B (mark != s17)))) ?_
       refine s_nil ?_
       refine WD.cond (((l7.length : Int) == 0) || (mark != s17)) rfl (fun c117z => ?_) (fun c117z => ?_)
       ·replace hM := M.e_t hM c117z
        refine WD.of ?_
        refine W.skip ?_
        refine WD.block ?_
        refine WD.seq ?_
        refine WD.of ?_
        refine W.region rfl ?_
        refine s_val (x_mv (v := I mark) rfl) ?_
        refine s_val (x_fa (a := .pointer (some ⟨b_2, 0, none⟩)) (v := .pointer (some ⟨b_2, 13, none⟩)) rfl (fa_blk (o := 0) Fd164_1 Sz117)) ?_
        obtain ⟨sd118z, hM⟩ := M.e_grd hM
        simp only [Bool.and_eq_true, decide_eq_true_eq] at sd118z
        refine s_val (x_ix (a := .pointer (some ⟨b_2, 13, none⟩)) (b := I mark) (v := .pointer (some ⟨b_2, 13 + Int.toNat mark * 2, none⟩)) rfl rfl (run_indexS Try.underlying117 Sz91 (by omega) (by omega))) ?_
        refine s_val (x_ld (p := .pointer (some ⟨b_2, 13 + Int.toNat mark * 2, none⟩)) (v := .agg #[I ((s12.getD (Int.toNat mark) default).line), B ((s12.getD (Int.toNat mark) default).back)]) rfl (ldSA (α := Leg) (k := 2) (off := 13) (i := (Int.toNat mark)) (sz := 2) default Ag91 Sz91 (H.blk (k := 2) rfl) rfl (sgo2 hl_s11 rfl) rfl (by have hl_ := hl_s12; omega) (by omega) rfl)) ?_
        refine t_alloc (cs := [I 0, B false]) H Al91 rfl ?_
        intro b_8 w119z H
        refine t_st (k := 0) (b := b_8) (off := 0) (cs := [I 0, B false]) (vs := [I ((s12.getD (Int.toNat mark) default).line), B ((s12.getD (Int.toNat mark) default).back)]) (cs' := [I ((s12.getD (Int.toNat mark) default).line), B ((s12.getD (Int.toNat mark) default).back)]) (v := .agg #[I ((s12.getD (Int.toNat mark) default).line), B ((s12.getD (Int.toNat mark) default).back)]) (L' := [cBlk b_8 [I ((s12.getD (Int.toNat mark) default).line), B ((s12.getD (Int.toNat mark) default).back)] 91, cOwn (α := Leg) 91 v_l7 l7, cBlk b_3 [I s17] 3, cBlk b_2 (List.flatten [[], encF (α := Int) s11, encF (α := Leg) s12, encF (α := Bool) s13]) 164, cBlk b_1 [.pointer (some ⟨b_w_, 0, none⟩)] 111, cMk Ds108z]) H rfl rfl rfl Sz91 rfl rfl rfl rfl rfl rfl ?_
        intro w120z H
        refine s_nil ?_
        refine WD.seq ?_
        refine WD.of ?_
        refine W.region rfl ?_
        refine s_val (x_mv (v := v_l7) rfl) ?_
        refine s_val (x_ld (p := .pointer (some ⟨b_8, 0, none⟩)) (v := .agg #[I ((s12.getD (Int.toNat mark) default).line), B ((s12.getD (Int.toNat mark) default).back)]) rfl (ldb_ag (ds := [I ((s12.getD (Int.toNat mark) default).line), B ((s12.getD (Int.toNat mark) default).back)]) Ag91 Sz91 (H.blk (k := 0) rfl) rfl rfl)) ?_
        refine t_bs (α := Leg) T88 [.agg #[I ((s12.getD (Int.toNat mark) default).line), B ((s12.getD (Int.toNat mark) default).back)]] [(s12.getD (Int.toNat mark) default)] H rfl (.cons rfl (Flat.rep_enc _ (s12.getD (Int.toNat mark) default)) <| .nil) rfl rfl rfl ?_
        intro v121z w122z H
        obtain ⟨sd123z, hM⟩ := M.e_grd hM
        simp only [Bool.and_eq_true, decide_eq_true_eq] at sd123z
        refine t_app (α := Leg) (k := 2) (l := l7) (l2 := [(s12.getD (Int.toNat mark) default)]) (l' := l7 ++ ([(s12.getD (Int.toNat mark) default)])) (vy := v121z) T88 rfl H rfl rfl rfl (ownSl (H.get (k := 0) rfl)) (ownLe _ (H.get (k := 0) rfl)) (rfl) (by first | omega | (simp only [List.length_nil] at *; omega)) ?_
        intro v124z w125z H
        replace H : St w w125z [cOwn (α := Leg) 91 v121z ([(s12.getD (Int.toNat mark) default)]), cBlk b_8 [I ((s12.getD (Int.toNat mark) default).line), B ((s12.getD (Int.toNat mark) default).back)] 91, cOwn (α := Leg) 91 v124z (l7 ++ ([(s12.getD (Int.toNat mark) default)])), cBlk b_3 [I s17] 3, cBlk b_2 (List.flatten [[], encF (α := Int) s11, encF (α := Leg) s12, encF (α := Bool) s13]) 164, cBlk b_1 [.pointer (some ⟨b_w_, 0, none⟩)] 111, cMk Ds108z] R := H
        refine s_val (x_as (v := v124z) rfl) ?_
        refine s_nil ?_
        refine WD.of ?_
        refine W.region rfl ?_
        refine s_val (x_ld (p := .pointer (some ⟨b_1, 0, none⟩)) (v := .pointer (some ⟨b_w_, 0, none⟩)) rfl (ldb_sc Sc111 (H.blk (k := 5) rfl) rfl)) ?_
        refine s_val (x_ld (p := .pointer (some ⟨b_8, 0, none⟩)) (v := .agg #[I ((s12.getD (Int.toNat mark) default).line), B ((s12.getD (Int.toNat mark) default).back)]) rfl (ldb_ag (ds := [I ((s12.getD (Int.toNat mark) default).line), B ((s12.getD (Int.toNat mark) default).back)]) Ag91 Sz91 (H.blk (k := 1) rfl) rfl rfl)) ?_
        obtain ⟨r127z, hx126z, hM⟩ := M.e_bind hM
        refine s_call cf83 [.pointer (some ⟨b_w_, 0, none⟩), .agg #[I ((s12.getD (Int.toNat mark) default).line), B ((s12.getD (Int.toNat mark) default).back)]] rfl (level_survey_start_ok w__Net_Marks w__Net_Lines (s12.getD (Int.toNat mark) default) (hC_w__Net_Lines.app _) hs_w__Net_Lines (h_b_w_.app _) hx126z _ (St.give (T := [cOwn (α := Leg) 91 v121z ([(s12.getD (Int.toNat mark) default)]), cBlk b_8 [I ((s12.getD (Int.toNat mark) default).line), B ((s12.getD (Int.toNat mark) default).back)] 91, cOwn (α := Leg) 91 v124z (l7 ++ ([(s12.getD (Int.toNat mark) default)])), cBlk b_3 [I s17] 3, cBlk b_2 (List.flatten [[], encF (α := Int) s11, encF (α := Leg) s12, encF (α := Bool) s13]) 164, cBlk b_1 [.pointer (some ⟨b_w_, 0, none⟩)] 111, cMk Ds108z]) H rfl)) ?_
        rintro vq w128z ⟨r5, hr129z, hvq, H2_⟩
        subst hr129z
        subst vq
        try dsimp only at hM
        replace H : St w w128z [cOwn (α := Leg) 91 v121z ([(s12.getD (Int.toNat mark) default)]), cBlk b_8 [I ((s12.getD (Int.toNat mark) default).line), B ((s12.getD (Int.toNat mark) default).back)] 91, cOwn (α := Leg) 91 v124z (l7 ++ ([(s12.getD (Int.toNat mark) default)])), cBlk b_3 [I s17] 3, cBlk b_2 (List.flatten [[], encF (α := Int) s11, encF (α := Leg) s12, encF (α := Bool) s13]) 164, cBlk b_1 [.pointer (some ⟨b_w_, 0, none⟩)] 111, cMk Ds108z] R := H.back H2_ rfl
        clear H2_
        refine s_val (x_as (v := I r5) rfl) ?_
        refine s_nil ?_
        exact ⟨m112z, lt113z, r5, l7 ++ ([(s12.getD (Int.toNat mark) default)]), v124z, _, upds_of _ _ ⟨rfl, rfl, rfl, rfl, rfl, trivial⟩, M.e_inl hM hN115z, (H.pick [2, 3, 4, 5, 6] (by decide) rfl)⟩
       ·replace hM := M.e_f hM c117z
        refine WD.of ?_
        refine W.exit ?_
        have hX130z := M.e_inr hM hN115z
        subst hX130z
        replace hM := hk107z
        try dsimp only at hM
        refine WD.seq ?_
        refine WD.of ?_
        refine W.region rfl ?_
        refine s_val (x_mv (v := v_l7) rfl) ?_
        obtain ⟨r132z, hx131z, hM⟩ := M.e_bind hM
        refine s_call cf100 [v_l7] rfl (slices_Reverse_level_Leg_ok l7 hx131z _ (St.give (T := [cBlk b_3 [I s17] 3, cBlk b_2 (List.flatten [[], encF (α := Int) s11, encF (α := Leg) s12, encF (α := Bool) s13]) 164, cBlk b_1 [.pointer (some ⟨b_w_, 0, none⟩)] 111, cMk Ds108z]) H rfl)) ?_
        rintro vq w133z ⟨l_s, hr134z, hvq, H2_⟩
        subst hr134z
        subst vq
        try dsimp only at hM
        replace H : St w w133z [cOwn (α := Leg) 91 v_l7 l_s, cBlk b_3 [I s17] 3, cBlk b_2 (List.flatten [[], encF (α := Int) s11, encF (α := Leg) s12, encF (α := Bool) s13]) 164, cBlk b_1 [.pointer (some ⟨b_w_, 0, none⟩)] 111, cMk Ds108z] R := H.back H2_ rfl
        clear H2_
        refine s_nil ?_
        refine WD.seq ?_
        refine WD.of ?_
        refine W.region rfl ?_
        refine s_val (x_mv (v := v_l7) rfl) ?_
        refine s_val (x_as (v := v_l7) rfl) ?_
        refine s_nil ?_
        refine WD.of ?_
        refine W.ret ?_
        refine bodyD_r (H.pick [4, 0, 1, 2, 3] (by decide) rfl) ?_
        intro w135z H
        replace H : St w w135z [cOwn (α := Leg) 91 v_l7 l_s, cBlk b_3 [I s17] 3, cBlk b_2 (List.flatten [[], encF (α := Int) s11, encF (α := Leg) s12, encF (α := Bool) s13]) 164, cBlk b_1 [.pointer (some ⟨b_w_, 0, none⟩)] 111] R := H
        obtain ⟨sd136z, hM⟩ := M.e_grd hM
        simp only [decide_eq_true_eq] at sd136z
        have hr_ := M.e_pure hM
        exact ⟨_, resE_tmp rfl, ⟨l_s, v_l7, hr_, rfl, (H.pick [0] (by decide) rfl), (fun h_ => by rw [h_] at sd136z; simp at sd136z)⟩⟩

def m_level_Loop_b0 (n_Marks : Int) (n_Lines : List Line) (r00 : Int) : (Nat × (List Leg)) -> M ((Nat × (List Leg)) ⊕ ((List Leg) × (List Leg))) := fun (s, l) =>
  bif decide ((s : Int) < n_Marks) then (
  M.bind (m_level_survey_sinking r00 n_Lines (s : Int)) fun r3 =>
  bif !r3.isEmpty then (
  M.pure (.inr (r3, l)))
  else (
  M.grd (decide ((-9223372036854775808 : Int) <= ((s : Int) + 1)) && decide (((s : Int) + 1) <= (9223372036854775807 : Int))) <|
  M.pure (.inl (s + 1, r3))))
  else (
  M.pure (.inr (l, l)))
def m_level_Loop (n_Marks : Int) (n_Lines : List Line) : M ((List Leg) × Int) :=
  M.bind (m_level_opened n_Marks n_Lines) fun x_ => match x_ with
  | (.inl r1) => (
  bif r1 != 0 then (
  M.pure (([]), r1))
  else (
  M.fail))
  | (.inr (r00, r02, r03, r12)) => (
  bif r12 != 0 then (
  M.fail)
  else (
  M.bind (m_level_survey_open r00 n_Lines r02 r03) fun r2 =>
  bif !r2 then (
  M.pure (([]), 5))
  else (
  M.bind (M.iter (m_level_Loop_b0 n_Marks n_Lines r00) (0, [])) fun (l2, l3) =>
  M.pure (l2, 0))))
theorem level_Loop_ok {R : List Chunk} {C_n_Lines : Cells} {v_n_Lines : Value} (n_Marks : Int) (n_Lines : List Line) (hC_n_Lines : Reads R C_n_Lines) (hs_n_Lines : Sl C_n_Lines v_n_Lines n_Lines) {r : ((List Leg) × Int)} (hM : (m_level_Loop n_Marks n_Lines).Ends r) (w : World) (H : St w w [] R) : Ret Try.prog 50 #[.agg #[I n_Marks, v_n_Lines]] w fun v w' => ∃ (y0 : List Leg) (y1 : Int) (u0 : Value), (y0, y1) = r /\ v = .tuple #[u0, I y1] /\ St w w' [cOwn (α := Leg) 91 u0 y0] R := by
 refine ret_of_W Try.func50 rfl rfl rfl ?_
 refine W.seq ?_
 refine W.region rfl ?_
 refine t_box (v := .agg #[I n_Marks, v_n_Lines]) (cs := [I n_Marks, v_n_Lines]) H rfl rfl ?_
 intro b_1 w1z H
 refine s_val (x_as (v := .slice none 0 0) rfl) ?_
 refine s_val (x_as (v := I 0) rfl) ?_
 refine s_nil ?_
 refine W.scope ?_
 refine W.seq ?_
 refine W.region rfl ?_
 refine s_val (x_ld (p := .pointer (some ⟨b_1, 0, none⟩)) (v := .agg #[I n_Marks, v_n_Lines]) rfl (ldb_ag (ds := [I n_Marks, v_n_Lines]) Ag25 Sz25 (H.blk (k := 0) rfl) rfl rfl)) ?_
 obtain ⟨r3z, hx2z, hM⟩ := M.e_bind hM
 refine s_call cf59 [.agg #[I n_Marks, v_n_Lines]] rfl (level_opened_ok n_Marks n_Lines (hC_n_Lines.app _) hs_n_Lines hx2z _ (St.give (T := [cBlk b_1 [I n_Marks, v_n_Lines] 25]) H rfl)) ?_
 rintro vq w4z (⟨r1, hr5z, hvq, H2_⟩ | ⟨r00, r02, r03, r12, nb0_2, hr6z, hvq, H2_, hf7z, hf8z⟩)
 ·subst hr5z
  subst vq
  try dsimp only at hM
  replace H : St w w4z [cBlk b_1 [I n_Marks, v_n_Lines] 25] R := H.back H2_ rfl
  clear H2_
  refine s_val (x_mv (v := .tuple #[.pointer none, I r1]) rfl) ?_
  refine s_val (x_ext (vs := [.pointer none, I r1]) (v := .pointer none) rfl rfl) ?_
  refine s_val (x_ext (vs := [.pointer none, I r1]) (v := I r1) rfl rfl) ?_
  refine s_val (x_as (v := .pointer none) rfl) ?_
  refine s_val (x_as (v := I r1) rfl) ?_
  refine s_nil ?_
  refine W.seq ?_
  refine W.block ?_
  refine W.seq ?_
  refine W.region rfl ?_
  refine s_val (x_mv (v := I r1) rfl) ?_
  refine s_val (x_cmp (kd := .i64) (a := r1) (b := 0) (r := r1 != 0) rfl rfl rfl) ?_
  refine s_val (x_as (v := B (r1 != 0)) rfl) ?_
  refine s_nil ?_
  refine W.cond (r1 != 0) rfl (fun c9z => ?_) (fun c9z => ?_)
  ·replace hM := M.e_t hM c9z
   simp only [decide_eq_true_eq, decide_eq_false_iff_not, beq_iff_eq, bne_iff_ne, beq_eq_false_iff_ne, bne_eq_false_iff_eq, ne_eq, Decidable.not_not] at c9z
   refine W.seq ?_
   refine W.region rfl ?_
   refine s_val (x_mv (v := I r1) rfl) ?_
   refine s_val (x_as (v := .slice none 0 0) rfl) ?_
   refine s_val (x_as (v := I r1) rfl) ?_
   refine s_nil ?_
   refine W.ret ?_
   have hr_ := M.e_pure hM
   replace H : St w w4z [cOwn (α := Leg) 91 (.slice none 0 0) ([]), cBlk b_1 [I n_Marks, v_n_Lines] 25] R := H.nilOwn (α := Leg) 91
   exact ⟨_, resE_tmp2 rfl, ⟨([]), r1, (.slice none 0 0), hr_, rfl, (H.pick [0] (by decide) rfl)⟩⟩
  ·replace hM := M.e_f hM c9z
   exact (M.e_fail hM).elim
 ·subst hr6z
  subst vq
  try dsimp only at hM
  replace H : St w w4z [cBlk nb0_2 (List.flatten [[I r00, v_n_Lines], encF (α := Int) r02, encF (α := Leg) r03]) 120, cBlk b_1 [I n_Marks, v_n_Lines] 25] R := H.back H2_ rfl
  clear H2_
  refine s_val (x_mv (v := .tuple #[.pointer (some ⟨nb0_2, 0, none⟩), I r12]) rfl) ?_
  refine s_val (x_ext (vs := [.pointer (some ⟨nb0_2, 0, none⟩), I r12]) (v := .pointer (some ⟨nb0_2, 0, none⟩)) rfl rfl) ?_
  refine s_val (x_ext (vs := [.pointer (some ⟨nb0_2, 0, none⟩), I r12]) (v := I r12) rfl rfl) ?_
  refine s_val (x_as (v := .pointer (some ⟨nb0_2, 0, none⟩)) rfl) ?_
  refine s_val (x_as (v := I r12) rfl) ?_
  refine s_nil ?_
  refine W.seq ?_
  refine W.block ?_
  refine W.seq ?_
  refine W.region rfl ?_
  refine s_val (x_mv (v := I r12) rfl) ?_
  refine s_val (x_cmp (kd := .i64) (a := r12) (b := 0) (r := r12 != 0) rfl rfl rfl) ?_
  refine s_val (x_as (v := B (r12 != 0)) rfl) ?_
  refine s_nil ?_
  refine W.cond (r12 != 0) rfl (fun c10z => ?_) (fun c10z => ?_)
  ·replace hM := M.e_t hM c10z
   exact (M.e_fail hM).elim
  ·replace hM := M.e_f hM c10z
   simp only [decide_eq_true_eq, decide_eq_false_iff_not, beq_iff_eq, bne_iff_ne, beq_eq_false_iff_ne, bne_eq_false_iff_eq, ne_eq, Decidable.not_not] at c10z
   refine W.seq ?_
   refine W.region rfl ?_
   refine s_val (x_mv (v := .pointer (some ⟨nb0_2, 0, none⟩)) rfl) ?_
   obtain ⟨r12z, hx11z, hM⟩ := M.e_bind hM
   refine s_call cf60 [.pointer (some ⟨nb0_2, 0, none⟩)] rfl (level_survey_open_ok r00 n_Lines r02 r03 (hC_n_Lines.app _) hs_n_Lines hf7z hf8z (Has.here (k := 0) rfl) hx11z _ (St.give (T := [cBlk nb0_2 (List.flatten [[I r00, v_n_Lines], encF (α := Int) r02, encF (α := Leg) r03]) 120, cBlk b_1 [I n_Marks, v_n_Lines] 25]) H rfl)) ?_
   rintro vq w13z ⟨r2, hr14z, hvq, H2_⟩
   subst hr14z
   subst vq
   try dsimp only at hM
   replace H : St w w13z [cBlk nb0_2 (List.flatten [[I r00, v_n_Lines], encF (α := Int) r02, encF (α := Leg) r03]) 120, cBlk b_1 [I n_Marks, v_n_Lines] 25] R := H.back H2_ rfl
   clear H2_
   refine s_val (x_not (b := r2) rfl) ?_
   refine s_val (x_as (v := B (!r2)) rfl) ?_
   refine s_nil ?_
   refine W.cond (!r2) rfl (fun c15z => ?_) (fun c15z => ?_)
   ·replace hM := M.e_t hM c15z
    refine W.seq ?_
    refine W.region rfl ?_
    refine s_val (x_as (v := .slice none 0 0) rfl) ?_
    refine s_val (x_as (v := I 5) rfl) ?_
    refine s_nil ?_
    refine W.ret ?_
    have hr_ := M.e_pure hM
    replace H : St w w13z [cOwn (α := Leg) 91 (.slice none 0 0) ([]), cBlk nb0_2 (List.flatten [[I r00, v_n_Lines], encF (α := Int) r02, encF (α := Leg) r03]) 120, cBlk b_1 [I n_Marks, v_n_Lines] 25] R := H.nilOwn (α := Leg) 91
    exact ⟨_, resE_tmp2 rfl, ⟨([]), 5, (.slice none 0 0), hr_, rfl, (H.pick [0] (by decide) rfl)⟩⟩
   ·replace hM := M.e_f hM c15z
    refine W.skip ?_
    refine W.seq ?_
    refine W.region rfl ?_
    refine s_val (x_as (v := .slice none 0 0) rfl) ?_
    refine s_nil ?_
    refine W.seq ?_
    refine W.label ?_
    refine W.seq ?_
    refine W.seq ?_
    refine W.region rfl ?_
    refine s_val (x_fa (a := .pointer (some ⟨b_1, 0, none⟩)) (v := .pointer (some ⟨b_1, 0, none⟩)) rfl (fa_blk (o := 0) Fd25_0 Sz3)) ?_
    refine s_val (x_ld (p := .pointer (some ⟨b_1, 0, none⟩)) (v := I n_Marks) rfl (ldb_sc Sc3 (H.blk (k := 1) rfl) rfl)) ?_
    refine s_val (x_mv (v := I 0) rfl) ?_
    refine s_nil ?_
    refine W.block ?_
    replace H : St w w13z [cOwn (α := Leg) 91 (.slice none 0 0) ([]), cBlk nb0_2 (List.flatten [[I r00, v_n_Lines], encF (α := Int) r02, encF (α := Leg) r03]) 120, cBlk b_1 [I n_Marks, v_n_Lines] 25] R := H.nilOwn (α := Leg) 91
    obtain ⟨ex16z, hi17z, hk18z⟩ := M.e_bind hM
    obtain ⟨m0_, hi17z⟩ := M.e_iter hi17z
    refine W.loop (fun m σ W => ∃ (s : Nat) (l : List Leg) (v_l : Value) (ρ : Env), σ = upds ρ [(4, .pointer (some ⟨nb0_2, 0, none⟩)), (6, v_l), (22, I n_Marks), (23, I (s : Int))] /\ M.iterN (m_level_Loop_b0 n_Marks n_Lines r00) m (s, l) = some ex16z /\ St w W [cOwn (α := Leg) 91 v_l l, cBlk nb0_2 (List.flatten [[I r00, v_n_Lines], encF (α := Int) r02, encF (α := Leg) r03]) 120, cBlk b_1 [I n_Marks, v_n_Lines] 25] R) ?_ ?_
    ·exact ⟨_, 0, [], (.slice none 0 0), _, upds_of _ _ ⟨rfl, rfl, rfl, rfl, trivial⟩, hi17z, H⟩
    ·rintro m21z σ w19z ⟨s, l, v_l, ρ, rfl, hI20z, H⟩
     obtain ⟨m22z, lt23z, x24z, hM, hN25z⟩ := M.e_iterN hI20z
     simp only [m_level_Loop_b0] at hM
     clear hI20z
     refine W.seq ?_
     refine W.region rfl ?_
     refine s_val (x_cmp (kd := .i64) (a := (s : Int)) (b := n_Marks) (r := decide ((s : Int) < n_Marks)) rfl rfl rfl) ?_
     refine s_nil ?_
     refine W.seq ?_
     refine W.cond (decide ((s : Int) < n_Marks)) rfl (fun c26z => ?_) (fun c26z => ?_)
     ·replace hM := M.e_t hM c26z
      simp only [decide_eq_true_eq, decide_eq_false_iff_not, beq_iff_eq, bne_iff_ne, beq_eq_false_iff_ne, bne_eq_false_iff_eq, ne_eq, Decidable.not_not] at c26z
      refine W.skip ?_
      refine W.seq ?_
      refine W.block ?_
      refine W.seq ?_
      refine W.region rfl ?_
      refine s_val (x_mv (v := I (s : Int)) rfl) ?_
      refine s_val (x_as (v := I (s : Int)) rfl) ?_
      refine s_nil ?_
      refine W.seq ?_
      refine W.region rfl ?_
      refine s_val (x_mv (v := .pointer (some ⟨nb0_2, 0, none⟩)) rfl) ?_
      refine s_val (x_mv (v := I (s : Int)) rfl) ?_
      obtain ⟨r28z, hx27z, hM⟩ := M.e_bind hM
      refine s_call cf87 [.pointer (some ⟨nb0_2, 0, none⟩), I (s : Int)] rfl (level_survey_sinking_ok r00 n_Lines (s : Int) (hC_n_Lines.app _) hs_n_Lines (Fld.here (k := 1) rfl rfl) hx27z _ (St.give (T := [cOwn (α := Leg) 91 v_l l, cBlk nb0_2 (List.flatten [[I r00, v_n_Lines], encF (α := Int) r02, encF (α := Leg) r03]) 120, cBlk b_1 [I n_Marks, v_n_Lines] 25]) H rfl)) ?_
      rintro vq w29z ⟨r3, u0_3, hr30z, hvq, H2_, hf31z⟩
      subst hr30z
      subst vq
      try dsimp only at hM
      replace H : St w w29z [cOwn (α := Leg) 91 u0_3 r3, cOwn (α := Leg) 91 v_l l, cBlk nb0_2 (List.flatten [[I r00, v_n_Lines], encF (α := Int) r02, encF (α := Leg) r03]) 120, cBlk b_1 [I n_Marks, v_n_Lines] 25] R := H.back H2_ rfl
      clear H2_
      refine s_val (x_as (v := u0_3) rfl) ?_
      refine s_nil ?_
      refine W.seq ?_
      refine W.region rfl ?_
      refine s_val (x_mv (v := u0_3) rfl) ?_
      refine s_val (x_nenil (α := Leg) T88.und rfl rfl (ownSl (H.get (k := 0) rfl)) hf31z) ?_
      refine s_nil ?_
      refine W.cond (!r3.isEmpty) rfl (fun c32z => ?_) (fun c32z => ?_)
      ·replace hM := M.e_t hM c32z
       refine W.exit ?_
       have hX33z := M.e_inr hM hN25z
       subst hX33z
       replace hM := hk18z
       try dsimp only at hM
       refine W.seq ?_
       refine W.region rfl ?_
       refine s_val (x_mv (v := u0_3) rfl) ?_
       refine s_val (x_as (v := u0_3) rfl) ?_
       refine s_val (x_as (v := I 0) rfl) ?_
       refine s_nil ?_
       refine W.ret ?_
       have hr_ := M.e_pure hM
       exact ⟨_, resE_tmp2 rfl, ⟨r3, 0, u0_3, hr_, rfl, (H.pick [0] (by decide) rfl)⟩⟩
      ·replace hM := M.e_f hM c32z
       refine W.skip ?_
       refine W.region rfl ?_
       obtain ⟨sd34z, hM⟩ := M.e_grd hM
       simp only [Bool.and_eq_true, decide_eq_true_eq] at sd34z
       refine s_val (x_ari (a := (s : Int)) (b := 1) (r := (s : Int) + 1) rfl rfl rfl (by omega)) ?_
       refine s_val (x_mv (v := I ((s : Int) + 1)) rfl) ?_
       refine s_nil ?_
       exact ⟨m22z, lt23z, s + 1, r3, u0_3, _, upds_of _ _ ⟨rfl, rfl, rfl, rfl, trivial⟩, M.e_inl hM hN25z, (H.pick [0, 2, 3] (by decide) rfl)⟩
     ·replace hM := M.e_f hM c26z
      simp only [decide_eq_true_eq, decide_eq_false_iff_not, beq_iff_eq, bne_iff_ne, beq_eq_false_iff_ne, bne_eq_false_iff_eq, ne_eq, Decidable.not_not] at c26z
      refine W.exit ?_
      have hX35z := M.e_inr hM hN25z
      subst hX35z
      replace hM := hk18z
      try dsimp only at hM
      refine W.seq ?_
      refine W.region rfl ?_
      refine s_val (x_mv (v := v_l) rfl) ?_
      refine s_val (x_as (v := v_l) rfl) ?_
      refine s_val (x_as (v := I 0) rfl) ?_
      refine s_nil ?_
      refine W.ret ?_
      have hr_ := M.e_pure hM
      exact ⟨_, resE_tmp2 rfl, ⟨l, 0, v_l, hr_, rfl, (H.pick [0] (by decide) rfl)⟩⟩

def m_nilometerkit_Same_level_Leg_b0 (a : List Leg) (b : List Leg) : Nat -> M (Nat ⊕ (Unit ⊕ Unit)) := fun i =>
  bif decide ((i : Int) < (a.length : Int)) then (
  M.grd (decide ((i : Int) < (a.length : Int))) <|
  M.grd (decide ((i : Int) < (b.length : Int))) <|
  bif !(decide ((a.getD i default) = (b.getD i default))) then (
  M.pure (.inr (.inl ())))
  else (
  M.pure (.inl (i + 1))))
  else (
  M.pure (.inr (.inr ())))
def m_nilometerkit_Same_level_Leg (a : List Leg) (b : List Leg) : M Bool :=
  bif (a.length : Int) != (b.length : Int) then (
  M.pure false)
  else (
  M.bind (M.iter (m_nilometerkit_Same_level_Leg_b0 a b) 0) fun x_ => match x_ with
  | (.inl (_ : Unit)) => (
  M.pure false)
  | (.inr (_ : Unit)) => (
  M.pure true))
theorem nilometerkit_Same_level_Leg_ok {R : List Chunk} {C_a : Cells} {v_a : Value} {C_b : Cells} {v_b : Value} (a : List Leg) (b : List Leg) (hC_a : Reads R C_a) (hs_a : Sl C_a v_a a) (hC_b : Reads R C_b) (hs_b : Sl C_b v_b b) {r : Bool} (hM : (m_nilometerkit_Same_level_Leg a b).Ends r) (w : World) (H : St w w [] R) : Ret Try.prog 51 #[v_a, v_b] w fun v w' => ∃ (y0 : Bool), y0 = r /\ v = B y0 /\ St w w' [] R := by
 refine ret_of_W Try.func51 rfl rfl rfl ?_
 refine W.seq ?_
 refine W.region rfl ?_
 refine s_val (x_as (v := B false) rfl) ?_
 refine s_nil ?_
 refine W.seq ?_
 refine W.seq ?_
 refine W.region rfl ?_
 refine s_val (x_mv (v := v_a) rfl) ?_
 have hl1z := (hs_a).len_le
 refine s_val (x_lenS T88.und rfl hs_a) ?_
 refine s_val (x_mv (v := v_b) rfl) ?_
 have hl2z := (hs_b).len_le
 refine s_val (x_lenS T88.und rfl hs_b) ?_
 refine s_val (x_cmp (kd := .i64) (a := (a.length : Int)) (b := (b.length : Int)) (r := (a.length : Int) != (b.length : Int)) rfl rfl rfl) ?_
 refine s_nil ?_
 refine W.cond ((a.length : Int) != (b.length : Int)) rfl (fun c3z => ?_) (fun c3z => ?_)
 ·replace hM := M.e_t hM c3z
  simp only [decide_eq_true_eq, decide_eq_false_iff_not, beq_iff_eq, bne_iff_ne, beq_eq_false_iff_ne, bne_eq_false_iff_eq, ne_eq, Decidable.not_not] at c3z
  refine W.seq ?_
  refine W.region rfl ?_
  refine s_val (x_as (v := B false) rfl) ?_
  refine s_nil ?_
  refine W.ret ?_
  have hr_ := M.e_pure hM
  exact ⟨_, resE_tmp rfl, ⟨false, hr_, rfl, H⟩⟩
 ·replace hM := M.e_f hM c3z
  simp only [decide_eq_true_eq, decide_eq_false_iff_not, beq_iff_eq, bne_iff_ne, beq_eq_false_iff_ne, bne_eq_false_iff_eq, ne_eq, Decidable.not_not] at c3z
  refine W.skip ?_
  refine W.seq ?_
  refine W.seq ?_
  refine W.region rfl ?_
  refine s_val (x_as (v := I 0) rfl) ?_
  refine s_nil ?_
  refine W.block ?_
  obtain ⟨ex4z, hi5z, hk6z⟩ := M.e_bind hM
  obtain ⟨m0_, hi5z⟩ := M.e_iter hi5z
  refine W.loop (fun m σ W => ∃ (i : Nat) (ρ : Env), σ = upds ρ [(0, v_a), (1, v_b), (5, I (i : Int))] /\ M.iterN (m_nilometerkit_Same_level_Leg_b0 a b) m i = some ex4z /\ St w W [] R) ?_ ?_
  ·exact ⟨_, 0, _, upds_of _ _ ⟨rfl, rfl, rfl, trivial⟩, hi5z, H⟩
  ·rintro m9z σ w7z ⟨i, ρ, rfl, hI8z, H⟩
   obtain ⟨m10z, lt11z, x12z, hM, hN13z⟩ := M.e_iterN hI8z
   simp only [m_nilometerkit_Same_level_Leg_b0] at hM
   clear hI8z
   refine W.seq ?_
   refine W.seq ?_
   refine W.region rfl ?_
   refine s_val (x_mv (v := I (i : Int)) rfl) ?_
   refine s_val (x_mv (v := v_a) rfl) ?_
   have hl14z := (hs_a).len_le
   refine s_val (x_lenS T88.und rfl hs_a) ?_
   refine s_val (x_cmp (kd := .i64) (a := (i : Int)) (b := (a.length : Int)) (r := decide ((i : Int) < (a.length : Int))) rfl rfl rfl) ?_
   refine s_nil ?_
   refine W.cond (decide ((i : Int) < (a.length : Int))) rfl (fun c15z => ?_) (fun c15z => ?_)
   ·replace hM := M.e_t hM c15z
    simp only [decide_eq_true_eq, decide_eq_false_iff_not, beq_iff_eq, bne_iff_ne, beq_eq_false_iff_ne, bne_eq_false_iff_eq, ne_eq, Decidable.not_not] at c15z
    refine W.skip ?_
    refine W.seq ?_
    refine W.block ?_
    refine W.seq ?_
    refine W.draw (fun W => St w W [] R) [(0, true), (1, true), (2, true), (3, true), (4, true), (5, true), (6, true), (7, true), (8, true)] mixed (by decide +kernel) rfl ?_
    intro w16z hx_
    replace H : St w w16z [] R := H.ext hx_
    clear hx_
    refine ⟨(H.pick [] (by decide) rfl), ?_⟩
    refine d_q rfl (fun w' H => x_mv (v := v_a) rfl) ?_
    refine d_q rfl (fun w' H => x_mv (v := I (i : Int)) rfl) ?_
    obtain ⟨sd17z, hM⟩ := M.e_grd hM
    simp only [Bool.and_eq_true, decide_eq_true_eq] at sd17z
    refine d_q rfl (fun w' H => x_ix (a := v_a) (b := I (i : Int)) (v := vat v_a 2 (Int.toNat (i : Int))) rfl rfl (Sl.ix (α := Leg) T88.und T88.size hs_a (by omega) (by omega))) ?_
    refine d_q rfl (fun w' H => x_ld (p := vat v_a 2 (Int.toNat (i : Int))) (v := .agg #[I ((a.getD i default).line), B ((a.getD i default).back)]) rfl (ld_ag Ag91 Sz91 (At.mono (Leg_atA hs_a (i := (i : Int)) (by omega) (by omega)) (hC_a.at H)))) ?_
    refine d_q rfl (fun w' H => x_mv (v := v_b) rfl) ?_
    refine d_q rfl (fun w' H => x_mv (v := I (i : Int)) rfl) ?_
    obtain ⟨sd18z, hM⟩ := M.e_grd hM
    simp only [Bool.and_eq_true, decide_eq_true_eq] at sd18z
    refine d_q rfl (fun w' H => x_ix (a := v_b) (b := I (i : Int)) (v := vat v_b 2 (Int.toNat (i : Int))) rfl rfl (Sl.ix (α := Leg) T88.und T88.size hs_b (by omega) (by omega))) ?_
    refine d_q rfl (fun w' H => x_ld (p := vat v_b 2 (Int.toNat (i : Int))) (v := .agg #[I ((b.getD i default).line), B ((b.getD i default).back)]) rfl (ld_ag Ag91 Sz91 (At.mono (Leg_atA hs_b (i := (i : Int)) (by omega) (by omega)) (hC_b.at H)))) ?_
    refine d_q rfl (fun w' H => x_neS (eqT91 (a.getD i default) (b.getD i default) _) gdT91 rfl rfl) ?_
    refine d_nil ?_
    refine W.cond (!(decide ((a.getD i default) = (b.getD i default)))) rfl (fun c19z => ?_) (fun c19z => ?_)
    ·replace hM := M.e_t hM c19z
     refine W.seq ?_
     refine W.region rfl ?_
     refine s_val (x_as (v := B false) rfl) ?_
     refine s_nil ?_
     refine W.ret ?_
     have hX20z := M.e_inr hM hN13z
     subst hX20z
     replace hM := hk6z
     try dsimp only at hM
     have hr_ := M.e_pure hM
     exact ⟨_, resE_tmp rfl, ⟨false, hr_, rfl, H⟩⟩
    ·replace hM := M.e_f hM c19z
     refine W.skip ?_
     refine W.region rfl ?_
     refine s_val (x_mv (v := I (i : Int)) rfl) ?_
     refine s_val (x_ari (a := (i : Int)) (b := 1) (r := (i : Int) + 1) rfl rfl rfl (by omega)) ?_
     refine s_val (x_as (v := I ((i : Int) + 1)) rfl) ?_
     refine s_nil ?_
     exact ⟨m10z, lt11z, i + 1, _, upds_of _ _ ⟨rfl, rfl, rfl, trivial⟩, M.e_inl hM hN13z, H⟩
   ·replace hM := M.e_f hM c15z
    simp only [decide_eq_true_eq, decide_eq_false_iff_not, beq_iff_eq, bne_iff_ne, beq_eq_false_iff_ne, bne_eq_false_iff_eq, ne_eq, Decidable.not_not] at c15z
    refine W.exit ?_
    have hX21z := M.e_inr hM hN13z
    subst hX21z
    replace hM := hk6z
    try dsimp only at hM
    refine W.seq ?_
    refine W.region rfl ?_
    refine s_val (x_as (v := B true) rfl) ?_
    refine s_nil ?_
    refine W.ret ?_
    have hr_ := M.e_pure hM
    exact ⟨_, resE_tmp rfl, ⟨true, hr_, rfl, H⟩⟩

def m_nilometerlaw01_LevelWalks_j0 (n_Marks : Int) (n_Lines : List Line) (legs : List Leg) (r0 : Int) (r1 : List Line) (r3 : List Leg) : M Bool :=
  M.bind (m_nilometerlaw01_same r0 r1 n_Marks n_Lines) fun r9 =>
  M.bind (M.opt r9 (m_nilometerkit_Same_level_Leg r3 legs) false) fun r10 =>
  M.bind (M.opt (r9 && r10) (m_nilometerlaw01_awake) false) fun r11 =>
  M.pure ((r9 && r10) && r11)
def m_nilometerlaw01_LevelWalks_j1 (n_Marks : Int) (n_Lines : List Line) (legs : List Leg) (r0 : Int) (r1 : List Line) (r3 : List Leg) (s2 : Int) : M Bool :=
  M.bind (m_level_Loop r0 r1) fun (r011, r113) =>
  bif ((r113 != s2) || ((r113 != 0) && (decide (0 < (r011.length : Int))))) then (
  M.pure false)
  else (
  bif r113 == 0 then (
  M.bind (m_nilometerlaw01_Net n_Marks n_Lines) fun (r013, r114) =>
  M.bind (m_nilometerlaw01_walk r011) fun r7 =>
  M.bind (m_nilometerref01_Rises r013 r114 r7) fun (r014, r115, r25, r35) =>
  M.bind (M.opt (!(((r35 != 0) || (r014 != r115)) || (decide (0 <= r25)))) (m_nilometerlaw01_twice n_Marks n_Lines r011 false) false) fun r8 =>
  bif ((((r35 != 0) || (r014 != r115)) || (decide (0 <= r25))) || r8) then (
  M.pure false)
  else (
  m_nilometerlaw01_LevelWalks_j0 n_Marks n_Lines legs r0 r1 r3))
  else (
  m_nilometerlaw01_LevelWalks_j0 n_Marks n_Lines legs r0 r1 r3))
def m_nilometerlaw01_LevelWalks_j2 (n_Marks : Int) (n_Lines : List Line) (legs : List Leg) (r0 : Int) (r1 : List Line) (r3 : List Leg) : M Bool :=
  M.bind (m_nilometerlaw01_Net n_Marks n_Lines) fun (r09, r111) =>
  M.bind (m_nilometerref01_Agrees r09 r111) fun (r010, r112) =>
  bif r010 then (
  m_nilometerlaw01_LevelWalks_j1 n_Marks n_Lines legs r0 r1 r3 5)
  else (
  m_nilometerlaw01_LevelWalks_j1 n_Marks n_Lines legs r0 r1 r3 r112)
def m_nilometerlaw01_LevelWalks_j3 (n_Marks : Int) (n_Lines : List Line) (from_ : Int) (to_ : Int) (legs : List Leg) (r0 : Int) (r1 : List Line) (r3 : List Leg) (r012 : Int) (s : Int) : M Bool :=
  M.bind (m_level_Highest r0 r1 from_ to_) fun (r06, r18) =>
  bif ((r18 != s) || ((r18 != 0) && (decide (0 < (r06.length : Int))))) then (
  M.pure false)
  else (
  bif r18 == 0 then (
  M.bind (m_nilometerlaw01_Net n_Marks n_Lines) fun (r07, r19) =>
  M.bind (m_nilometerlaw01_walk r06) fun r5 =>
  M.bind (m_nilometerref01_Rises r07 r19 r5) fun (r08, r110, r24, r34) =>
  M.bind (M.opt (!((((r34 != 0) || (r08 != from_)) || (r110 != to_)) || (r24 != r012))) (m_nilometerlaw01_twice n_Marks n_Lines r06 true) false) fun r6 =>
  bif (((((r34 != 0) || (r08 != from_)) || (r110 != to_)) || (r24 != r012)) || r6) then (
  M.pure false)
  else (
  m_nilometerlaw01_LevelWalks_j2 n_Marks n_Lines legs r0 r1 r3))
  else (
  m_nilometerlaw01_LevelWalks_j2 n_Marks n_Lines legs r0 r1 r3))
def m_nilometerlaw01_LevelWalks (n_Marks : Int) (n_Lines : List Line) (from_ : Int) (to_ : Int) (legs : List Leg) : M Bool :=
  bif ((decide (35 < (n_Lines.length : Int))) || (decide (70 < (legs.length : Int)))) then (
  M.bind (m_nilometerlaw01_awake) fun r2 =>
  M.pure r2)
  else (
  M.bind (m_nilometerlaw01_CopyNet n_Marks n_Lines) fun (r0, r1) =>
  M.bind (m_nilometerkit_Copy_level_Leg legs) fun r3 =>
  M.bind (m_level_Between r0 r1 from_ to_) fun (r00, r01, r12) =>
  M.bind (m_nilometerlaw01_Net n_Marks n_Lines) fun (r02, r13) =>
  M.bind (m_nilometerref01_Between r02 r13 from_ to_) fun (r002, r012, r14) =>
  bif ((!(decide ((⟨(r00 : Int), (r01 : Int)⟩ : Span) = (⟨(r002 : Int), (r012 : Int)⟩ : Span)))) || (r12 != r14)) then (
  M.pure false)
  else (
  M.bind (m_level_Rises r0 r1 r3) fun (r03, r15, r22, r32) =>
  M.bind (m_nilometerlaw01_Net n_Marks n_Lines) fun (r04, r16) =>
  M.bind (m_nilometerlaw01_walk legs) fun r4 =>
  M.bind (m_nilometerref01_Rises r04 r16 r4) fun (r05, r17, r23, r33) =>
  bif ((((r03 != r05) || (r15 != r17)) || (r22 != r23)) || (r32 != r33)) then (
  M.pure false)
  else (
  bif ((from_ == to_) && ((r14 == 0) || (r14 == 7))) then (
  m_nilometerlaw01_LevelWalks_j3 n_Marks n_Lines from_ to_ legs r0 r1 r3 r012 2)
  else (
  m_nilometerlaw01_LevelWalks_j3 n_Marks n_Lines from_ to_ legs r0 r1 r3 r012 r14))))
theorem nilometerlaw01_LevelWalks_ok {R : List Chunk} {C_n_Lines : Cells} {v_n_Lines : Value} {C_legs : Cells} {v_legs : Value} (n_Marks : Int) (n_Lines : List Line) (from_ : Int) (to_ : Int) (legs : List Leg) (hC_n_Lines : Reads R C_n_Lines) (hs_n_Lines : Sl C_n_Lines v_n_Lines n_Lines) (hC_legs : Reads R C_legs) (hs_legs : Sl C_legs v_legs legs) {r : Bool} (hM : (m_nilometerlaw01_LevelWalks n_Marks n_Lines from_ to_ legs).Ends r) (w : World) (H : St w w [] R) : Ret Try.prog 10 #[.agg #[I n_Marks, v_n_Lines], I from_, I to_, v_legs] w fun v w' => ∃ (y0 : Bool), y0 = r /\ v = B y0 /\ St w w' [] R := by
 refine ret_of_W Try.func10 rfl rfl rfl ?_
 refine W.seq ?_
 refine W.region rfl ?_
 refine t_box (v := .agg #[I n_Marks, v_n_Lines]) (cs := [I n_Marks, v_n_Lines]) H rfl rfl ?_
 intro b_1 w1z H
 refine s_val (x_as (v := B false) rfl) ?_
 refine s_nil ?_
 refine W.seq ?_
 refine W.seq ?_
 refine W.region rfl ?_
 refine s_val (x_fa (a := .pointer (some ⟨b_1, 0, none⟩)) (v := .pointer (some ⟨b_1, 1, none⟩)) rfl (fa_blk (o := 0) Fd25_1 Sz23)) ?_
 refine s_val (x_ld (p := .pointer (some ⟨b_1, 1, none⟩)) (v := v_n_Lines) rfl (ldb_sc Sc23 (H.blk (k := 0) rfl) rfl)) ?_
 have hl2z := (hs_n_Lines).len_le
 refine s_val (x_lenS T23.und rfl hs_n_Lines) ?_
 refine s_val (x_cmp (kd := .i64) (a := (n_Lines.length : Int)) (b := 35) (r := decide (35 < (n_Lines.length : Int))) rfl rfl rfl) ?_
 refine s_val (x_mv (v := B (decide (35 < (n_Lines.length : Int)))) rfl) ?_
 refine g_val (!(decide (35 < (n_Lines.length : Int)))) (gy_f rfl) (fun hg => x_mv (v := v_legs) rfl) ?_
 refine g_val (!(decide (35 < (n_Lines.length : Int)))) (gy_f rfl) (fun hg => x_lenS T88.und (gd_of (c := !(decide (35 < (n_Lines.length : Int)))) hg (v_legs)) hs_legs) ?_
 refine g_val (!(decide (35 < (n_Lines.length : Int)))) (gy_f rfl) (fun hg => x_cmp (kd := .i64) (a := (legs.length : Int)) (b := 70) (r := decide (70 < (legs.length : Int))) (gd_of (c := !(decide (35 < (n_Lines.length : Int)))) hg (I (legs.length : Int))) rfl rfl) ?_
 refine s_val (x_por (b := decide (35 < (n_Lines.length : Int))) (r := decide (70 < (legs.length : Int))) rfl rfl (fun hb => gd_of (c := !(decide (35 < (n_Lines.length : Int)))) (by first | exact hb | (rw [hb]; rfl) | simp_all) (B (decide (70 < (legs.length : Int)))))) ?_
 refine s_nil ?_
 refine W.cond ((decide (35 < (n_Lines.length : Int))) || (decide (70 < (legs.length : Int)))) rfl (fun c4z => ?_) (fun c4z => ?_)
 ·replace hM := M.e_t hM c4z
  refine W.seq ?_
  refine W.region rfl ?_
  obtain ⟨r6z, hx5z, hM⟩ := M.e_bind hM
  refine s_call cf18 [] rfl (nilometerlaw01_awake_ok hx5z _ (St.give (T := [cBlk b_1 [I n_Marks, v_n_Lines] 25]) H rfl)) ?_
  rintro vq w7z ⟨r2, hr8z, hvq, H2_⟩
  subst hr8z
  subst vq
  try dsimp only at hM
  replace H : St w w7z [cBlk b_1 [I n_Marks, v_n_Lines] 25] R := H.back H2_ rfl
  clear H2_
  refine s_val (x_as (v := B r2) rfl) ?_
  refine s_nil ?_
  refine W.ret ?_
  have hr_ := M.e_pure hM
  exact ⟨_, resE_tmp rfl, ⟨r2, hr_, rfl, (H.pick [] (by decide) rfl)⟩⟩
 ·replace hM := M.e_f hM c4z
  refine W.skip ?_
  refine W.seq ?_
  refine W.region rfl ?_
  refine s_val (x_ld (p := .pointer (some ⟨b_1, 0, none⟩)) (v := .agg #[I n_Marks, v_n_Lines]) rfl (ldb_ag (ds := [I n_Marks, v_n_Lines]) Ag25 Sz25 (H.blk (k := 0) rfl) rfl rfl)) ?_
  obtain ⟨r10z, hx9z, hM⟩ := M.e_bind hM
  refine s_call cf15 [.agg #[I n_Marks, v_n_Lines]] rfl (nilometerlaw01_CopyNet_ok n_Marks n_Lines (hC_n_Lines.app _) hs_n_Lines hx9z _ (St.give (T := [cBlk b_1 [I n_Marks, v_n_Lines] 25]) H rfl)) ?_
  rintro vq w11z ⟨r0, r1, u0_2, hr12z, hvq, H2_⟩
  subst hr12z
  subst vq
  try dsimp only at hM
  replace H : St w w11z [cOwn (α := Line) 34 u0_2 r1, cBlk b_1 [I n_Marks, v_n_Lines] 25] R := H.back H2_ rfl
  clear H2_
  refine s_val (x_mv (v := v_legs) rfl) ?_
  obtain ⟨r14z, hx13z, hM⟩ := M.e_bind hM
  refine s_call cf43 [v_legs] rfl (nilometerkit_Copy_level_Leg_ok legs (hC_legs.app _) hs_legs hx13z _ (St.give (T := [cOwn (α := Line) 34 u0_2 r1, cBlk b_1 [I n_Marks, v_n_Lines] 25]) H rfl)) ?_
  rintro vq w15z ⟨r3, u0_3, hr16z, hvq, H2_⟩
  subst hr16z
  subst vq
  try dsimp only at hM
  replace H : St w w15z [cOwn (α := Leg) 91 u0_3 r3, cOwn (α := Line) 34 u0_2 r1, cBlk b_1 [I n_Marks, v_n_Lines] 25] R := H.back H2_ rfl
  clear H2_
  refine t_alloc (cs := [I 0, .slice none 0 0]) H Al25 rfl ?_
  intro b_4 w17z H
  refine t_st (k := 0) (b := b_4) (off := 0) (cs := [I 0, .slice none 0 0]) (vs := [I r0, u0_2]) (cs' := [I r0, u0_2]) (v := .agg #[I r0, u0_2]) (L' := [cBlk b_4 [I r0, u0_2] 25, cOwn (α := Leg) 91 u0_3 r3, cOwn (α := Line) 34 u0_2 r1, cBlk b_1 [I n_Marks, v_n_Lines] 25]) H rfl rfl rfl Sz25 rfl rfl rfl (by simp only [List.all_cons, List.all_nil, Bool.true_and, Bool.and_true, Sl.oc (ownSl (H.get (k := 2) rfl))]; try rfl) rfl rfl ?_
  intro w18z H
  refine s_val (x_as (v := u0_3) rfl) ?_
  refine s_nil ?_
  refine W.seq ?_
  refine W.region rfl ?_
  refine s_val (x_ld (p := .pointer (some ⟨b_4, 0, none⟩)) (v := .agg #[I r0, u0_2]) rfl (ldb_ag (ds := [I r0, u0_2]) Ag25 Sz25 (H.blk (k := 0) rfl) rfl rfl)) ?_
  refine s_val (x_mv (v := I from_) rfl) ?_
  refine s_val (x_mv (v := I to_) rfl) ?_
  obtain ⟨r20z, hx19z, hM⟩ := M.e_bind hM
  refine s_call cf17 [.agg #[I r0, u0_2], I from_, I to_] rfl (level_Between_ok r0 r1 from_ to_ (Reads.of (k := 2) rfl ownLe) (ownSl (H.get (k := 2) rfl)) hx19z _ (St.give (T := [cBlk b_4 [I r0, u0_2] 25, cOwn (α := Leg) 91 u0_3 r3, cOwn (α := Line) 34 u0_2 r1, cBlk b_1 [I n_Marks, v_n_Lines] 25]) H rfl)) ?_
  rintro vq w21z ⟨r00, r01, r12, hr22z, hvq, H2_⟩
  subst hr22z
  subst vq
  try dsimp only at hM
  replace H : St w w21z [cBlk b_4 [I r0, u0_2] 25, cOwn (α := Leg) 91 u0_3 r3, cOwn (α := Line) 34 u0_2 r1, cBlk b_1 [I n_Marks, v_n_Lines] 25] R := H.back H2_ rfl
  clear H2_
  refine s_val (x_mv (v := .tuple #[.agg #[I r00, I r01], I r12]) rfl) ?_
  refine s_val (x_ext (vs := [.agg #[I r00, I r01], I r12]) (v := .agg #[I r00, I r01]) rfl rfl) ?_
  refine s_val (x_ext (vs := [.agg #[I r00, I r01], I r12]) (v := I r12) rfl rfl) ?_
  refine t_alloc (cs := [I 0, I 0]) H Al37 rfl ?_
  intro b_5 w23z H
  refine t_st (k := 0) (b := b_5) (off := 0) (cs := [I 0, I 0]) (vs := [I r00, I r01]) (cs' := [I r00, I r01]) (v := .agg #[I r00, I r01]) (L' := [cBlk b_5 [I r00, I r01] 37, cBlk b_4 [I r0, u0_2] 25, cOwn (α := Leg) 91 u0_3 r3, cOwn (α := Line) 34 u0_2 r1, cBlk b_1 [I n_Marks, v_n_Lines] 25]) H rfl rfl rfl Sz37 rfl rfl rfl rfl rfl rfl ?_
  intro w24z H
  refine s_val (x_as (v := I r12) rfl) ?_
  refine s_nil ?_
  refine W.seq ?_
  refine W.region rfl ?_
  refine s_val (x_ld (p := .pointer (some ⟨b_1, 0, none⟩)) (v := .agg #[I n_Marks, v_n_Lines]) rfl (ldb_ag (ds := [I n_Marks, v_n_Lines]) Ag25 Sz25 (H.blk (k := 4) rfl) rfl rfl)) ?_
  obtain ⟨r26z, hx25z, hM⟩ := M.e_bind hM
  refine s_call cf28 [.agg #[I n_Marks, v_n_Lines]] rfl (nilometerlaw01_Net_ok n_Marks n_Lines (hC_n_Lines.app _) hs_n_Lines hx25z _ (St.give (T := [cBlk b_5 [I r00, I r01] 37, cBlk b_4 [I r0, u0_2] 25, cOwn (α := Leg) 91 u0_3 r3, cOwn (α := Line) 34 u0_2 r1, cBlk b_1 [I n_Marks, v_n_Lines] 25]) H rfl)) ?_
  rintro vq w27z ⟨r02, r13, u0_6, hr28z, hvq, H2_⟩
  subst hr28z
  subst vq
  try dsimp only at hM
  replace H : St w w27z [cOwn (α := Line) 133 u0_6 r13, cBlk b_5 [I r00, I r01] 37, cBlk b_4 [I r0, u0_2] 25, cOwn (α := Leg) 91 u0_3 r3, cOwn (α := Line) 34 u0_2 r1, cBlk b_1 [I n_Marks, v_n_Lines] 25] R := H.back H2_ rfl
  clear H2_
  refine s_val (x_mv (v := I from_) rfl) ?_
  refine s_val (x_mv (v := I to_) rfl) ?_
  obtain ⟨r30z, hx29z, hM⟩ := M.e_bind hM
  refine s_call cf44 [.agg #[I r02, u0_6], I from_, I to_] rfl (nilometerref01_Between_ok r02 r13 from_ to_ (Reads.of (k := 0) rfl ownLe) (ownSl (H.get (k := 0) rfl)) hx29z _ (St.give (T := [cOwn (α := Line) 133 u0_6 r13, cBlk b_5 [I r00, I r01] 37, cBlk b_4 [I r0, u0_2] 25, cOwn (α := Leg) 91 u0_3 r3, cOwn (α := Line) 34 u0_2 r1, cBlk b_1 [I n_Marks, v_n_Lines] 25]) H rfl)) ?_
  rintro vq w31z ⟨r002, r012, r14, hr32z, hvq, H2_⟩
  subst hr32z
  subst vq
  try dsimp only at hM
  replace H : St w w31z [cOwn (α := Line) 133 u0_6 r13, cBlk b_5 [I r00, I r01] 37, cBlk b_4 [I r0, u0_2] 25, cOwn (α := Leg) 91 u0_3 r3, cOwn (α := Line) 34 u0_2 r1, cBlk b_1 [I n_Marks, v_n_Lines] 25] R := H.back H2_ rfl
  clear H2_
  refine s_val (x_mv (v := .tuple #[.agg #[I r002, I r012], I r14]) rfl) ?_
  refine s_val (x_ext (vs := [.agg #[I r002, I r012], I r14]) (v := .agg #[I r002, I r012]) rfl rfl) ?_
  refine s_val (x_ext (vs := [.agg #[I r002, I r012], I r14]) (v := I r14) rfl rfl) ?_
  refine t_alloc (cs := [I 0, I 0]) H Al37 rfl ?_
  intro b_7 w33z H
  refine t_st (k := 0) (b := b_7) (off := 0) (cs := [I 0, I 0]) (vs := [I r002, I r012]) (cs' := [I r002, I r012]) (v := .agg #[I r002, I r012]) (L' := [cBlk b_7 [I r002, I r012] 37, cOwn (α := Line) 133 u0_6 r13, cBlk b_5 [I r00, I r01] 37, cBlk b_4 [I r0, u0_2] 25, cOwn (α := Leg) 91 u0_3 r3, cOwn (α := Line) 34 u0_2 r1, cBlk b_1 [I n_Marks, v_n_Lines] 25]) H rfl rfl rfl Sz37 rfl rfl rfl rfl rfl rfl ?_
  intro w34z H
  refine s_val (x_as (v := I r14) rfl) ?_
  refine s_nil ?_
  refine W.seq ?_
  refine W.seq ?_
  refine W.region rfl ?_
  refine s_val (x_ld (p := .pointer (some ⟨b_5, 0, none⟩)) (v := .agg #[I r00, I r01]) rfl (ldb_ag (ds := [I r00, I r01]) Ag37 Sz37 (H.blk (k := 2) rfl) rfl rfl)) ?_
  refine s_val (x_ld (p := .pointer (some ⟨b_7, 0, none⟩)) (v := .agg #[I r002, I r012]) rfl (ldb_ag (ds := [I r002, I r012]) Ag37 Sz37 (H.blk (k := 0) rfl) rfl rfl)) ?_
  refine s_val (x_neS (eqT37 (⟨(r00 : Int), (r01 : Int)⟩ : Span) (⟨(r002 : Int), (r012 : Int)⟩ : Span) _) gdT37 rfl rfl) ?_
  refine s_val (x_mv (v := B (!(decide ((⟨(r00 : Int), (r01 : Int)⟩ : Span) = (⟨(r002 : Int), (r012 : Int)⟩ : Span))))) rfl) ?_
  refine g_val (!(!(decide ((⟨(r00 : Int), (r01 : Int)⟩ : Span) = (⟨(r002 : Int), (r012 : Int)⟩ : Span))))) (gy_f rfl) (fun hg => x_mv (v := I r12) rfl) ?_
  refine g_val (!(!(decide ((⟨(r00 : Int), (r01 : Int)⟩ : Span) = (⟨(r002 : Int), (r012 : Int)⟩ : Span))))) (gy_f rfl) (fun hg => x_mv (v := I r14) rfl) ?_
  refine g_val (!(!(decide ((⟨(r00 : Int), (r01 : Int)⟩ : Span) = (⟨(r002 : Int), (r012 : Int)⟩ : Span))))) (gy_f rfl) (fun hg => x_cmp (kd := .i64) (a := r12) (b := r14) (r := r12 != r14) (gd_of (c := !(!(decide ((⟨(r00 : Int), (r01 : Int)⟩ : Span) = (⟨(r002 : Int), (r012 : Int)⟩ : Span))))) hg (I r12)) (gd_of (c := !(!(decide ((⟨(r00 : Int), (r01 : Int)⟩ : Span) = (⟨(r002 : Int), (r012 : Int)⟩ : Span))))) hg (I r14)) rfl) ?_
  refine s_val (x_por (b := !(decide ((⟨(r00 : Int), (r01 : Int)⟩ : Span) = (⟨(r002 : Int), (r012 : Int)⟩ : Span)))) (r := r12 != r14) rfl rfl (fun hb => gd_of (c := !(!(decide ((⟨(r00 : Int), (r01 : Int)⟩ : Span) = (⟨(r002 : Int), (r012 : Int)⟩ : Span))))) (by first | exact hb | (rw [hb]; rfl) | simp_all) (B (r12 != r14)))) ?_
  refine s_nil ?_
  refine W.cond ((!(decide ((⟨(r00 : Int), (r01 : Int)⟩ : Span) = (⟨(r002 : Int), (r012 : Int)⟩ : Span)))) || (r12 != r14)) rfl (fun c35z => ?_) (fun c35z => ?_)
  ·replace hM := M.e_t hM c35z
   refine W.seq ?_
   refine W.region rfl ?_
   refine s_val (x_as (v := B false) rfl) ?_
   refine s_nil ?_
   refine W.ret ?_
   have hr_ := M.e_pure hM
   exact ⟨_, resE_tmp rfl, ⟨false, hr_, rfl, (H.pick [] (by decide) rfl)⟩⟩
  ·replace hM := M.e_f hM c35z
   refine W.skip ?_
   refine W.seq ?_
   refine W.region rfl ?_
   refine s_val (x_ld (p := .pointer (some ⟨b_4, 0, none⟩)) (v := .agg #[I r0, u0_2]) rfl (ldb_ag (ds := [I r0, u0_2]) Ag25 Sz25 (H.blk (k := 3) rfl) rfl rfl)) ?_
   refine s_val (x_mv (v := u0_3) rfl) ?_
   obtain ⟨r37z, hx36z, hM⟩ := M.e_bind hM
   refine s_call cf45 [.agg #[I r0, u0_2], u0_3] rfl (level_Rises_ok r0 r1 r3 (Reads.of (k := 5) rfl ownLe) (ownSl (H.get (k := 5) rfl)) (Reads.of (k := 4) rfl ownLe) (ownSl (H.get (k := 4) rfl)) hx36z _ (St.give (T := [cBlk b_7 [I r002, I r012] 37, cOwn (α := Line) 133 u0_6 r13, cBlk b_5 [I r00, I r01] 37, cBlk b_4 [I r0, u0_2] 25, cOwn (α := Leg) 91 u0_3 r3, cOwn (α := Line) 34 u0_2 r1, cBlk b_1 [I n_Marks, v_n_Lines] 25]) H rfl)) ?_
   rintro vq w38z ⟨r03, r15, r22, r32, hr39z, hvq, H2_⟩
   subst hr39z
   subst vq
   try dsimp only at hM
   replace H : St w w38z [cBlk b_7 [I r002, I r012] 37, cOwn (α := Line) 133 u0_6 r13, cBlk b_5 [I r00, I r01] 37, cBlk b_4 [I r0, u0_2] 25, cOwn (α := Leg) 91 u0_3 r3, cOwn (α := Line) 34 u0_2 r1, cBlk b_1 [I n_Marks, v_n_Lines] 25] R := H.back H2_ rfl
   clear H2_
   refine s_val (x_mv (v := .tuple #[I r03, I r15, I r22, I r32]) rfl) ?_
   refine s_val (x_ext (vs := [I r03, I r15, I r22, I r32]) (v := I r03) rfl rfl) ?_
   refine s_val (x_ext (vs := [I r03, I r15, I r22, I r32]) (v := I r15) rfl rfl) ?_
   refine s_val (x_ext (vs := [I r03, I r15, I r22, I r32]) (v := I r22) rfl rfl) ?_
   refine s_val (x_ext (vs := [I r03, I r15, I r22, I r32]) (v := I r32) rfl rfl) ?_
   refine s_val (x_as (v := I r03) rfl) ?_
   refine s_val (x_as (v := I r15) rfl) ?_
   refine s_val (x_as (v := I r22) rfl) ?_
   refine s_val (x_as (v := I r32) rfl) ?_
   refine s_nil ?_
   refine W.seq ?_
   refine W.region rfl ?_
   refine s_val (x_ld (p := .pointer (some ⟨b_1, 0, none⟩)) (v := .agg #[I n_Marks, v_n_Lines]) rfl (ldb_ag (ds := [I n_Marks, v_n_Lines]) Ag25 Sz25 (H.blk (k := 6) rfl) rfl rfl)) ?_
   obtain ⟨r41z, hx40z, hM⟩ := M.e_bind hM
   refine s_call cf28 [.agg #[I n_Marks, v_n_Lines]] rfl (nilometerlaw01_Net_ok n_Marks n_Lines (hC_n_Lines.app _) hs_n_Lines hx40z _ (St.give (T := [cBlk b_7 [I r002, I r012] 37, cOwn (α := Line) 133 u0_6 r13, cBlk b_5 [I r00, I r01] 37, cBlk b_4 [I r0, u0_2] 25, cOwn (α := Leg) 91 u0_3 r3, cOwn (α := Line) 34 u0_2 r1, cBlk b_1 [I n_Marks, v_n_Lines] 25]) H rfl)) ?_
   rintro vq w42z ⟨r04, r16, u0_8, hr43z, hvq, H2_⟩
   subst hr43z
   subst vq
   try dsimp only at hM
   replace H : St w w42z [cOwn (α := Line) 133 u0_8 r16, cBlk b_7 [I r002, I r012] 37, cOwn (α := Line) 133 u0_6 r13, cBlk b_5 [I r00, I r01] 37, cBlk b_4 [I r0, u0_2] 25, cOwn (α := Leg) 91 u0_3 r3, cOwn (α := Line) 34 u0_2 r1, cBlk b_1 [I n_Marks, v_n_Lines] 25] R := H.back H2_ rfl
   clear H2_
   refine s_val (x_mv (v := v_legs) rfl) ?_
   obtain ⟨r45z, hx44z, hM⟩ := M.e_bind hM
   refine s_call cf47 [v_legs] rfl (nilometerlaw01_walk_ok legs (hC_legs.app _) hs_legs hx44z _ (St.give (T := [cOwn (α := Line) 133 u0_8 r16, cBlk b_7 [I r002, I r012] 37, cOwn (α := Line) 133 u0_6 r13, cBlk b_5 [I r00, I r01] 37, cBlk b_4 [I r0, u0_2] 25, cOwn (α := Leg) 91 u0_3 r3, cOwn (α := Line) 34 u0_2 r1, cBlk b_1 [I n_Marks, v_n_Lines] 25]) H rfl)) ?_
   rintro vq w46z ⟨r4, u0_9, hr47z, hvq, H2_⟩
   subst hr47z
   subst vq
   try dsimp only at hM
   replace H : St w w46z [cOwn (α := Leg) 145 u0_9 r4, cOwn (α := Line) 133 u0_8 r16, cBlk b_7 [I r002, I r012] 37, cOwn (α := Line) 133 u0_6 r13, cBlk b_5 [I r00, I r01] 37, cBlk b_4 [I r0, u0_2] 25, cOwn (α := Leg) 91 u0_3 r3, cOwn (α := Line) 34 u0_2 r1, cBlk b_1 [I n_Marks, v_n_Lines] 25] R := H.back H2_ rfl
   clear H2_
   obtain ⟨r49z, hx48z, hM⟩ := M.e_bind hM
   refine s_call cf46 [.agg #[I r04, u0_8], u0_9] rfl (nilometerref01_Rises_ok r04 r16 r4 (Reads.of (k := 1) rfl ownLe) (ownSl (H.get (k := 1) rfl)) (Reads.of (k := 0) rfl ownLe) (ownSl (H.get (k := 0) rfl)) hx48z _ (St.give (T := [cOwn (α := Leg) 145 u0_9 r4, cOwn (α := Line) 133 u0_8 r16, cBlk b_7 [I r002, I r012] 37, cOwn (α := Line) 133 u0_6 r13, cBlk b_5 [I r00, I r01] 37, cBlk b_4 [I r0, u0_2] 25, cOwn (α := Leg) 91 u0_3 r3, cOwn (α := Line) 34 u0_2 r1, cBlk b_1 [I n_Marks, v_n_Lines] 25]) H rfl)) ?_
   rintro vq w50z ⟨r05, r17, r23, r33, hr51z, hvq, H2_⟩
   subst hr51z
   subst vq
   try dsimp only at hM
   replace H : St w w50z [cOwn (α := Leg) 145 u0_9 r4, cOwn (α := Line) 133 u0_8 r16, cBlk b_7 [I r002, I r012] 37, cOwn (α := Line) 133 u0_6 r13, cBlk b_5 [I r00, I r01] 37, cBlk b_4 [I r0, u0_2] 25, cOwn (α := Leg) 91 u0_3 r3, cOwn (α := Line) 34 u0_2 r1, cBlk b_1 [I n_Marks, v_n_Lines] 25] R := H.back H2_ rfl
   clear H2_
   refine s_val (x_mv (v := .tuple #[I r05, I r17, I r23, I r33]) rfl) ?_
   refine s_val (x_ext (vs := [I r05, I r17, I r23, I r33]) (v := I r05) rfl rfl) ?_
   refine s_val (x_ext (vs := [I r05, I r17, I r23, I r33]) (v := I r17) rfl rfl) ?_
   refine s_val (x_ext (vs := [I r05, I r17, I r23, I r33]) (v := I r23) rfl rfl) ?_
   refine s_val (x_ext (vs := [I r05, I r17, I r23, I r33]) (v := I r33) rfl rfl) ?_
   refine s_val (x_as (v := I r05) rfl) ?_
   refine s_val (x_as (v := I r17) rfl) ?_
   refine s_val (x_as (v := I r23) rfl) ?_
   refine s_val (x_as (v := I r33) rfl) ?_
   refine s_nil ?_
   refine W.seq ?_
   refine W.seq ?_
   refine W.region rfl ?_
   refine s_val (x_mv (v := I r03) rfl) ?_
   refine s_val (x_mv (v := I r05) rfl) ?_
   refine s_val (x_cmp (kd := .i64) (a := r03) (b := r05) (r := r03 != r05) rfl rfl rfl) ?_
   refine s_val (x_mv (v := B (r03 != r05)) rfl) ?_
   refine g_val (!(r03 != r05)) (gy_f rfl) (fun hg => x_mv (v := I r15) rfl) ?_
   refine g_val (!(r03 != r05)) (gy_f rfl) (fun hg => x_mv (v := I r17) rfl) ?_
   refine g_val (!(r03 != r05)) (gy_f rfl) (fun hg => x_cmp (kd := .i64) (a := r15) (b := r17) (r := r15 != r17) (gd_of (c := !(r03 != r05)) hg (I r15)) (gd_of (c := !(r03 != r05)) hg (I r17)) rfl) ?_
   refine s_val (x_por (b := r03 != r05) (r := r15 != r17) rfl rfl (fun hb => gd_of (c := !(r03 != r05)) (by first | exact hb | (rw [hb]; rfl) | simp_all) (B (r15 != r17)))) ?_
   refine s_val (x_mv (v := B ((r03 != r05) || (r15 != r17))) rfl) ?_
   refine g_val (!((r03 != r05) || (r15 != r17))) (gy_f rfl) (fun hg => x_mv (v := I r22) rfl) ?_
   refine g_val (!((r03 != r05) || (r15 != r17))) (gy_f rfl) (fun hg => x_mv (v := I r23) rfl) ?_
   refine g_val (!((r03 != r05) || (r15 != r17))) (gy_f rfl) (fun hg => x_cmp (kd := .i64) (a := r22) (b := r23) (r := r22 != r23) (gd_of (c := !((r03 != r05) || (r15 != r17))) hg (I r22)) (gd_of (c := !((r03 != r05) || (r15 != r17))) hg (I r23)) rfl) ?_
   refine s_val (x_por (b := ((r03 != r05) || (r15 != r17))) (r := r22 != r23) rfl rfl (fun hb => gd_of (c := !((r03 != r05) || (r15 != r17))) (by first | exact hb | (rw [hb]; rfl) | simp_all) (B (r22 != r23)))) ?_
   refine s_val (x_mv (v := B (((r03 != r05) || (r15 != r17)) || (r22 != r23))) rfl) ?_
   refine g_val (!(((r03 != r05) || (r15 != r17)) || (r22 != r23))) (gy_f rfl) (fun hg => x_mv (v := I r32) rfl) ?_
   refine g_val (!(((r03 != r05) || (r15 != r17)) || (r22 != r23))) (gy_f rfl) (fun hg => x_mv (v := I r33) rfl) ?_
   refine g_val (!(((r03 != r05) || (r15 != r17)) || (r22 != r23))) (gy_f rfl) (fun hg => x_cmp (kd := .i64) (a := r32) (b := r33) (r := r32 != r33) (gd_of (c := !(((r03 != r05) || (r15 != r17)) || (r22 != r23))) hg (I r32)) (gd_of (c := !(((r03 != r05) || (r15 != r17)) || (r22 != r23))) hg (I r33)) rfl) ?_
   refine s_val (x_por (b := (((r03 != r05) || (r15 != r17)) || (r22 != r23))) (r := r32 != r33) rfl rfl (fun hb => gd_of (c := !(((r03 != r05) || (r15 != r17)) || (r22 != r23))) (by first | exact hb | (rw [hb]; rfl) | simp_all) (B (r32 != r33)))) ?_
   refine s_nil ?_
   refine W.cond ((((r03 != r05) || (r15 != r17)) || (r22 != r23)) || (r32 != r33)) rfl (fun c52z => ?_) (fun c52z => ?_)
   ·replace hM := M.e_t hM c52z
    refine W.seq ?_
    refine W.region rfl ?_
    refine s_val (x_as (v := B false) rfl) ?_
    refine s_nil ?_
    refine W.ret ?_
    have hr_ := M.e_pure hM
    exact ⟨_, resE_tmp rfl, ⟨false, hr_, rfl, (H.pick [] (by decide) rfl)⟩⟩
   ·replace hM := M.e_f hM c52z
    refine W.skip ?_
    refine W.seqJ (fun σ W => ∃ (s : Int) (ρ : Env), σ = upds ρ [(1, I from_), (2, I to_), (3, v_legs), (4, .pointer (some ⟨b_1, 0, none⟩)), (9, .pointer (some ⟨b_4, 0, none⟩)), (10, u0_3), (13, .pointer (some ⟨b_7, 0, none⟩)), (14, I s)] /\ (m_nilometerlaw01_LevelWalks_j3 n_Marks n_Lines from_ to_ legs r0 r1 r3 r012 s).Ends r /\ St w W [cOwn (α := Leg) 145 u0_9 r4, cOwn (α := Line) 133 u0_8 r16, cBlk b_7 [I r002, I r012] 37, cOwn (α := Line) 133 u0_6 r13, cBlk b_5 [I r00, I r01] 37, cBlk b_4 [I r0, u0_2] 25, cOwn (α := Leg) 91 u0_3 r3, cOwn (α := Line) 34 u0_2 r1, cBlk b_1 [I n_Marks, v_n_Lines] 25] R) ?_ ?_
    ·skip
     refine W.seq ?_
     refine W.region rfl ?_
     refine s_val (x_mv (v := I from_) rfl) ?_
     refine s_val (x_mv (v := I to_) rfl) ?_
     refine s_val (x_cmp (kd := .i64) (a := from_) (b := to_) (r := from_ == to_) rfl rfl rfl) ?_
     refine s_val (x_mv (v := B (from_ == to_)) rfl) ?_
     refine g_val (from_ == to_) (gy_t rfl) (fun hg => x_mv (v := I r14) rfl) ?_
     refine g_val (from_ == to_) (gy_t rfl) (fun hg => x_cmp (kd := .i64) (a := r14) (b := 0) (r := r14 == 0) (gd_of (c := from_ == to_) hg (I r14)) rfl rfl) ?_
     refine g_val (from_ == to_) (gy_t rfl) (fun hg => x_mv (v := B (r14 == 0)) (gd_of (c := from_ == to_) hg (B (r14 == 0)))) ?_
     refine g_val ((from_ == to_) && !(r14 == 0)) (gy_gf rfl rfl) (fun hg => x_mv (v := I r14) rfl) ?_
     refine g_val ((from_ == to_) && !(r14 == 0)) (gy_gf rfl rfl) (fun hg => x_cmp (kd := .i64) (a := r14) (b := 7) (r := r14 == 7) (gd_of (c := ((from_ == to_) && !(r14 == 0))) hg (I r14)) rfl rfl) ?_
     refine g_val (from_ == to_) (gy_t rfl) (fun hg => x_por (b := r14 == 0) (r := r14 == 7) (gd_of (c := from_ == to_) hg (B (r14 == 0))) rfl (fun hb => gd_of (c := ((from_ == to_) && !(r14 == 0))) (by first | exact hb | (rw [hb]; rfl) | simp_all) (B (r14 == 7)))) ?_
     refine s_val (x_pand (b := from_ == to_) (r := ((r14 == 0) || (r14 == 7))) rfl (fun hb => gd_of (c := from_ == to_) (by first | exact hb | (rw [hb]; rfl) | simp_all) (B ((r14 == 0) || (r14 == 7)))) rfl) ?_
     refine s_nil ?_
     refine W.cond ((from_ == to_) && ((r14 == 0) || (r14 == 7))) rfl (fun c53z => ?_) (fun c53z => ?_)
     ·replace hM := M.e_t hM c53z
      refine W.region rfl ?_
      refine s_val (x_as (v := I 2) rfl) ?_
      refine s_nil ?_
      exact ⟨2, _, upds_of _ _ ⟨rfl, rfl, rfl, rfl, rfl, rfl, rfl, rfl, trivial⟩, hM, H⟩
     ·replace hM := M.e_f hM c53z
      refine W.skip ?_
      exact ⟨r14, _, upds_of _ _ ⟨rfl, rfl, rfl, rfl, rfl, rfl, rfl, rfl, trivial⟩, hM, H⟩
    ·rintro _ w54z ⟨s, ρ, rfl, hM, H⟩
     unfold m_nilometerlaw01_LevelWalks_j3 at hM
     refine W.seq ?_
     refine W.region rfl ?_
     refine s_val (x_ld (p := .pointer (some ⟨b_4, 0, none⟩)) (v := .agg #[I r0, u0_2]) rfl (ldb_ag (ds := [I r0, u0_2]) Ag25 Sz25 (H.blk (k := 5) rfl) rfl rfl)) ?_
     refine s_val (x_mv (v := I from_) rfl) ?_
     refine s_val (x_mv (v := I to_) rfl) ?_
     obtain ⟨r56z, hx55z, hM⟩ := M.e_bind hM
     refine s_call cf48 [.agg #[I r0, u0_2], I from_, I to_] rfl (level_Highest_ok r0 r1 from_ to_ (Reads.of (k := 7) rfl ownLe) (ownSl (H.get (k := 7) rfl)) hx55z _ (St.give (T := [cOwn (α := Leg) 145 u0_9 r4, cOwn (α := Line) 133 u0_8 r16, cBlk b_7 [I r002, I r012] 37, cOwn (α := Line) 133 u0_6 r13, cBlk b_5 [I r00, I r01] 37, cBlk b_4 [I r0, u0_2] 25, cOwn (α := Leg) 91 u0_3 r3, cOwn (α := Line) 34 u0_2 r1, cBlk b_1 [I n_Marks, v_n_Lines] 25]) H rfl)) ?_
     rintro vq w57z ⟨r06, r18, u0_10, hr58z, hvq, H2_⟩
     subst hr58z
     subst vq
     try dsimp only at hM
     replace H : St w w57z [cOwn (α := Leg) 91 u0_10 r06, cOwn (α := Leg) 145 u0_9 r4, cOwn (α := Line) 133 u0_8 r16, cBlk b_7 [I r002, I r012] 37, cOwn (α := Line) 133 u0_6 r13, cBlk b_5 [I r00, I r01] 37, cBlk b_4 [I r0, u0_2] 25, cOwn (α := Leg) 91 u0_3 r3, cOwn (α := Line) 34 u0_2 r1, cBlk b_1 [I n_Marks, v_n_Lines] 25] R := H.back H2_ rfl
     clear H2_
     refine s_val (x_mv (v := .tuple #[u0_10, I r18]) rfl) ?_
     refine s_val (x_ext (vs := [u0_10, I r18]) (v := u0_10) rfl rfl) ?_
     refine s_val (x_ext (vs := [u0_10, I r18]) (v := I r18) rfl rfl) ?_
     refine s_val (x_as (v := u0_10) rfl) ?_
     refine s_val (x_as (v := I r18) rfl) ?_
     refine s_nil ?_
     refine W.seq ?_
     refine W.seq ?_
     refine W.region rfl ?_
     refine s_val (x_mv (v := I r18) rfl) ?_
     refine s_val (x_mv (v := I s) rfl) ?_
     refine s_val (x_cmp (kd := .i64) (a := r18) (b := s) (r := r18 != s) rfl rfl rfl) ?_
     refine s_val (x_mv (v := B (r18 != s)) rfl) ?_
     refine g_val (!(r18 != s)) (gy_f rfl) (fun hg => x_mv (v := I r18) rfl) ?_
     refine g_val (!(r18 != s)) (gy_f rfl) (fun hg => x_cmp (kd := .i64) (a := r18) (b := 0) (r := r18 != 0) (gd_of (c := !(r18 != s)) hg (I r18)) rfl rfl) ?_
     refine g_val (!(r18 != s)) (gy_f rfl) (fun hg => x_mv (v := B (r18 != 0)) (gd_of (c := !(r18 != s)) hg (B (r18 != 0)))) ?_
     refine g_val ((!(r18 != s)) && (r18 != 0)) (gy_gt rfl rfl) (fun hg => x_mv (v := u0_10) rfl) ?_
     refine g_val ((!(r18 != s)) && (r18 != 0)) (gy_gt rfl rfl) (fun hg => x_lenS T88.und (gd_of (c := ((!(r18 != s)) && (r18 != 0))) hg (u0_10)) (ownSl (H.get (k := 0) rfl))) ?_
     refine g_val ((!(r18 != s)) && (r18 != 0)) (gy_gt rfl rfl) (fun hg => x_cmp (kd := .i64) (a := (r06.length : Int)) (b := 0) (r := decide (0 < (r06.length : Int))) (gd_of (c := ((!(r18 != s)) && (r18 != 0))) hg (I (r06.length : Int))) rfl rfl) ?_
     refine g_val (!(r18 != s)) (gy_f rfl) (fun hg => x_pand (b := r18 != 0) (r := decide (0 < (r06.length : Int))) (gd_of (c := !(r18 != s)) hg (B (r18 != 0))) (fun hb => gd_of (c := ((!(r18 != s)) && (r18 != 0))) (by first | exact hb | (rw [hb]; rfl) | simp_all) (B (decide (0 < (r06.length : Int))))) rfl) ?_
     refine s_val (x_por (b := r18 != s) (r := ((r18 != 0) && (decide (0 < (r06.length : Int))))) rfl rfl (fun hb => gd_of (c := !(r18 != s)) (by first | exact hb | (rw [hb]; rfl) | simp_all) (B ((r18 != 0) && (decide (0 < (r06.length : Int))))))) ?_
     refine s_nil ?_
     refine W.cond ((r18 != s) || ((r18 != 0) && (decide (0 < (r06.length : Int))))) rfl (fun c60z => ?_) (fun c60z => ?_)
     ·replace hM := M.e_t hM c60z
      refine W.seq ?_
      refine W.region rfl ?_
      refine s_val (x_as (v := B false) rfl) ?_
      refine s_nil ?_
      refine W.ret ?_
      have hr_ := M.e_pure hM
      exact ⟨_, resE_tmp rfl, ⟨false, hr_, rfl, (H.pick [] (by decide) rfl)⟩⟩
     ·replace hM := M.e_f hM c60z
      refine W.skip ?_
      refine W.seqJ (fun σ W => ∃ (ρ : Env), σ = upds ρ [(3, v_legs), (4, .pointer (some ⟨b_1, 0, none⟩)), (9, .pointer (some ⟨b_4, 0, none⟩)), (10, u0_3)] /\ (m_nilometerlaw01_LevelWalks_j2 n_Marks n_Lines legs r0 r1 r3).Ends r /\ St w W [cOwn (α := Leg) 91 u0_10 r06, cOwn (α := Leg) 145 u0_9 r4, cOwn (α := Line) 133 u0_8 r16, cBlk b_7 [I r002, I r012] 37, cOwn (α := Line) 133 u0_6 r13, cBlk b_5 [I r00, I r01] 37, cBlk b_4 [I r0, u0_2] 25, cOwn (α := Leg) 91 u0_3 r3, cOwn (α := Line) 34 u0_2 r1, cBlk b_1 [I n_Marks, v_n_Lines] 25] R) ?_ ?_
      ·skip
       refine W.seq ?_
       refine W.region rfl ?_
       refine s_val (x_mv (v := I r18) rfl) ?_
       refine s_val (x_cmp (kd := .i64) (a := r18) (b := 0) (r := r18 == 0) rfl rfl rfl) ?_
       refine s_nil ?_
       refine W.cond (r18 == 0) rfl (fun c61z => ?_) (fun c61z => ?_)
       ·replace hM := M.e_t hM c61z
        simp only [decide_eq_true_eq, decide_eq_false_iff_not, beq_iff_eq, bne_iff_ne, beq_eq_false_iff_ne, bne_eq_false_iff_eq, ne_eq, Decidable.not_not] at c61z
        refine W.seq ?_
        refine W.region rfl ?_
        refine s_val (x_ld (p := .pointer (some ⟨b_1, 0, none⟩)) (v := .agg #[I n_Marks, v_n_Lines]) rfl (ldb_ag (ds := [I n_Marks, v_n_Lines]) Ag25 Sz25 (H.blk (k := 9) rfl) rfl rfl)) ?_
        obtain ⟨r63z, hx62z, hM⟩ := M.e_bind hM
        refine s_call cf28 [.agg #[I n_Marks, v_n_Lines]] rfl (nilometerlaw01_Net_ok n_Marks n_Lines (hC_n_Lines.app _) hs_n_Lines hx62z _ (St.give (T := [cOwn (α := Leg) 91 u0_10 r06, cOwn (α := Leg) 145 u0_9 r4, cOwn (α := Line) 133 u0_8 r16, cBlk b_7 [I r002, I r012] 37, cOwn (α := Line) 133 u0_6 r13, cBlk b_5 [I r00, I r01] 37, cBlk b_4 [I r0, u0_2] 25, cOwn (α := Leg) 91 u0_3 r3, cOwn (α := Line) 34 u0_2 r1, cBlk b_1 [I n_Marks, v_n_Lines] 25]) H rfl)) ?_
        rintro vq w64z ⟨r07, r19, u0_11, hr65z, hvq, H2_⟩
        subst hr65z
        subst vq
        try dsimp only at hM
        replace H : St w w64z [cOwn (α := Line) 133 u0_11 r19, cOwn (α := Leg) 91 u0_10 r06, cOwn (α := Leg) 145 u0_9 r4, cOwn (α := Line) 133 u0_8 r16, cBlk b_7 [I r002, I r012] 37, cOwn (α := Line) 133 u0_6 r13, cBlk b_5 [I r00, I r01] 37, cBlk b_4 [I r0, u0_2] 25, cOwn (α := Leg) 91 u0_3 r3, cOwn (α := Line) 34 u0_2 r1, cBlk b_1 [I n_Marks, v_n_Lines] 25] R := H.back H2_ rfl
        clear H2_
        refine s_val (x_mv (v := u0_10) rfl) ?_
        obtain ⟨r67z, hx66z, hM⟩ := M.e_bind hM
        refine s_call cf47 [u0_10] rfl (nilometerlaw01_walk_ok r06 (Reads.of (k := 1) rfl ownLe) (ownSl (H.get (k := 1) rfl)) hx66z _ (St.give (T := [cOwn (α := Line) 133 u0_11 r19, cOwn (α := Leg) 91 u0_10 r06, cOwn (α := Leg) 145 u0_9 r4, cOwn (α := Line) 133 u0_8 r16, cBlk b_7 [I r002, I r012] 37, cOwn (α := Line) 133 u0_6 r13, cBlk b_5 [I r00, I r01] 37, cBlk b_4 [I r0, u0_2] 25, cOwn (α := Leg) 91 u0_3 r3, cOwn (α := Line) 34 u0_2 r1, cBlk b_1 [I n_Marks, v_n_Lines] 25]) H rfl)) ?_
        rintro vq w68z ⟨r5, u0_12, hr69z, hvq, H2_⟩
        subst hr69z
        subst vq
        try dsimp only at hM
        replace H : St w w68z [cOwn (α := Leg) 145 u0_12 r5, cOwn (α := Line) 133 u0_11 r19, cOwn (α := Leg) 91 u0_10 r06, cOwn (α := Leg) 145 u0_9 r4, cOwn (α := Line) 133 u0_8 r16, cBlk b_7 [I r002, I r012] 37, cOwn (α := Line) 133 u0_6 r13, cBlk b_5 [I r00, I r01] 37, cBlk b_4 [I r0, u0_2] 25, cOwn (α := Leg) 91 u0_3 r3, cOwn (α := Line) 34 u0_2 r1, cBlk b_1 [I n_Marks, v_n_Lines] 25] R := H.back H2_ rfl
        clear H2_
        obtain ⟨r71z, hx70z, hM⟩ := M.e_bind hM
        refine s_call cf46 [.agg #[I r07, u0_11], u0_12] rfl (nilometerref01_Rises_ok r07 r19 r5 (Reads.of (k := 1) rfl ownLe) (ownSl (H.get (k := 1) rfl)) (Reads.of (k := 0) rfl ownLe) (ownSl (H.get (k := 0) rfl)) hx70z _ (St.give (T := [cOwn (α := Leg) 145 u0_12 r5, cOwn (α := Line) 133 u0_11 r19, cOwn (α := Leg) 91 u0_10 r06, cOwn (α := Leg) 145 u0_9 r4, cOwn (α := Line) 133 u0_8 r16, cBlk b_7 [I r002, I r012] 37, cOwn (α := Line) 133 u0_6 r13, cBlk b_5 [I r00, I r01] 37, cBlk b_4 [I r0, u0_2] 25, cOwn (α := Leg) 91 u0_3 r3, cOwn (α := Line) 34 u0_2 r1, cBlk b_1 [I n_Marks, v_n_Lines] 25]) H rfl)) ?_
        rintro vq w72z ⟨r08, r110, r24, r34, hr73z, hvq, H2_⟩
        subst hr73z
        subst vq
        try dsimp only at hM
        replace H : St w w72z [cOwn (α := Leg) 145 u0_12 r5, cOwn (α := Line) 133 u0_11 r19, cOwn (α := Leg) 91 u0_10 r06, cOwn (α := Leg) 145 u0_9 r4, cOwn (α := Line) 133 u0_8 r16, cBlk b_7 [I r002, I r012] 37, cOwn (α := Line) 133 u0_6 r13, cBlk b_5 [I r00, I r01] 37, cBlk b_4 [I r0, u0_2] 25, cOwn (α := Leg) 91 u0_3 r3, cOwn (α := Line) 34 u0_2 r1, cBlk b_1 [I n_Marks, v_n_Lines] 25] R := H.back H2_ rfl
        clear H2_
        refine s_val (x_mv (v := .tuple #[I r08, I r110, I r24, I r34]) rfl) ?_
        refine s_val (x_ext (vs := [I r08, I r110, I r24, I r34]) (v := I r08) rfl rfl) ?_
        refine s_val (x_ext (vs := [I r08, I r110, I r24, I r34]) (v := I r110) rfl rfl) ?_
        refine s_val (x_ext (vs := [I r08, I r110, I r24, I r34]) (v := I r24) rfl rfl) ?_
        refine s_val (x_ext (vs := [I r08, I r110, I r24, I r34]) (v := I r34) rfl rfl) ?_
        refine s_val (x_as (v := I r08) rfl) ?_
        refine s_val (x_as (v := I r110) rfl) ?_
        refine s_val (x_as (v := I r24) rfl) ?_
        refine s_val (x_as (v := I r34) rfl) ?_
        refine s_nil ?_
        refine W.seq ?_
        refine W.region rfl ?_
        refine s_val (x_mv (v := I r34) rfl) ?_
        refine s_val (x_cmp (kd := .i64) (a := r34) (b := 0) (r := r34 != 0) rfl rfl rfl) ?_
        refine s_val (x_mv (v := B (r34 != 0)) rfl) ?_
        refine g_val (!(r34 != 0)) (gy_f rfl) (fun hg => x_mv (v := I r08) rfl) ?_
        refine g_val (!(r34 != 0)) (gy_f rfl) (fun hg => x_mv (v := I from_) rfl) ?_
        refine g_val (!(r34 != 0)) (gy_f rfl) (fun hg => x_cmp (kd := .i64) (a := r08) (b := from_) (r := r08 != from_) (gd_of (c := !(r34 != 0)) hg (I r08)) (gd_of (c := !(r34 != 0)) hg (I from_)) rfl) ?_
        refine s_val (x_por (b := r34 != 0) (r := r08 != from_) rfl rfl (fun hb => gd_of (c := !(r34 != 0)) (by first | exact hb | (rw [hb]; rfl) | simp_all) (B (r08 != from_)))) ?_
        refine s_val (x_mv (v := B ((r34 != 0) || (r08 != from_))) rfl) ?_
        refine g_val (!((r34 != 0) || (r08 != from_))) (gy_f rfl) (fun hg => x_mv (v := I r110) rfl) ?_
        refine g_val (!((r34 != 0) || (r08 != from_))) (gy_f rfl) (fun hg => x_mv (v := I to_) rfl) ?_
        refine g_val (!((r34 != 0) || (r08 != from_))) (gy_f rfl) (fun hg => x_cmp (kd := .i64) (a := r110) (b := to_) (r := r110 != to_) (gd_of (c := !((r34 != 0) || (r08 != from_))) hg (I r110)) (gd_of (c := !((r34 != 0) || (r08 != from_))) hg (I to_)) rfl) ?_
        refine s_val (x_por (b := ((r34 != 0) || (r08 != from_))) (r := r110 != to_) rfl rfl (fun hb => gd_of (c := !((r34 != 0) || (r08 != from_))) (by first | exact hb | (rw [hb]; rfl) | simp_all) (B (r110 != to_)))) ?_
        refine s_val (x_mv (v := B (((r34 != 0) || (r08 != from_)) || (r110 != to_))) rfl) ?_
        refine g_val (!(((r34 != 0) || (r08 != from_)) || (r110 != to_))) (gy_f rfl) (fun hg => x_mv (v := I r24) rfl) ?_
        refine g_val (!(((r34 != 0) || (r08 != from_)) || (r110 != to_))) (gy_f rfl) (fun hg => x_fa (a := .pointer (some ⟨b_7, 0, none⟩)) (v := .pointer (some ⟨b_7, 1, none⟩)) rfl (fa_blk (o := 0) Fd37_1 Sz3)) ?_
        refine g_val (!(((r34 != 0) || (r08 != from_)) || (r110 != to_))) (gy_f rfl) (fun hg => x_ld (p := .pointer (some ⟨b_7, 1, none⟩)) (v := I r012) (gd_of (c := !(((r34 != 0) || (r08 != from_)) || (r110 != to_))) hg (.pointer (some ⟨b_7, 1, none⟩))) (ldb_sc Sc3 (H.blk (k := 5) rfl) rfl)) ?_
        refine g_val (!(((r34 != 0) || (r08 != from_)) || (r110 != to_))) (gy_f rfl) (fun hg => x_cmp (kd := .i64) (a := r24) (b := r012) (r := r24 != r012) (gd_of (c := !(((r34 != 0) || (r08 != from_)) || (r110 != to_))) hg (I r24)) (gd_of (c := !(((r34 != 0) || (r08 != from_)) || (r110 != to_))) hg (I r012)) rfl) ?_
        refine s_val (x_por (b := (((r34 != 0) || (r08 != from_)) || (r110 != to_))) (r := r24 != r012) rfl rfl (fun hb => gd_of (c := !(((r34 != 0) || (r08 != from_)) || (r110 != to_))) (by first | exact hb | (rw [hb]; rfl) | simp_all) (B (r24 != r012)))) ?_
        refine s_val (x_mv (v := B ((((r34 != 0) || (r08 != from_)) || (r110 != to_)) || (r24 != r012))) rfl) ?_
        refine g_val (!((((r34 != 0) || (r08 != from_)) || (r110 != to_)) || (r24 != r012))) (gy_f rfl) (fun hg => x_ld (p := .pointer (some ⟨b_1, 0, none⟩)) (v := .agg #[I n_Marks, v_n_Lines]) rfl (ldb_ag (ds := [I n_Marks, v_n_Lines]) Ag25 Sz25 (H.blk (k := 11) rfl) rfl rfl)) ?_
        refine g_val (!((((r34 != 0) || (r08 != from_)) || (r110 != to_)) || (r24 != r012))) (gy_f rfl) (fun hg => x_mv (v := u0_10) rfl) ?_
        obtain ⟨r6, hx74z, hM⟩ := M.e_bind hM
        refine t_gcall (!((((r34 != 0) || (r08 != from_)) || (r110 != to_)) || (r24 != r012))) (gy_f rfl) cf49 (B r6) (fun _ => [.agg #[I n_Marks, v_n_Lines], u0_10, B true]) (fun hg => lst3 (gd_of (c := !((((r34 != 0) || (r08 != from_)) || (r110 != to_)) || (r24 != r012))) hg (.agg #[I n_Marks, v_n_Lines])) (gd_of (c := !((((r34 != 0) || (r08 != from_)) || (r110 != to_)) || (r24 != r012))) hg (u0_10)) rfl) H (fun hg => (nilometerlaw01_twice_ok n_Marks n_Lines r06 true (hC_n_Lines.app _) hs_n_Lines (Reads.of (k := 2) rfl ownLe) (ownSl (H.get (k := 2) rfl)) (M.e_opt hx74z hg) _ (H.give (A := []) rfl)).mono fun v_ w_ ⟨y_, hr_, hv_, H_⟩ => by subst hr_; exact ⟨hv_, H.via H_⟩) ?_
        intro w75z H
        refine s_val (x_por (b := ((((r34 != 0) || (r08 != from_)) || (r110 != to_)) || (r24 != r012))) (r := r6) rfl rfl (fun hb => gd_of (c := !((((r34 != 0) || (r08 != from_)) || (r110 != to_)) || (r24 != r012))) (by first | exact hb | (rw [hb]; rfl) | simp_all) (B r6))) ?_
        refine s_nil ?_
        refine W.cond (((((r34 != 0) || (r08 != from_)) || (r110 != to_)) || (r24 != r012)) || r6) rfl (fun c76z => ?_) (fun c76z => ?_)
        ·replace hM := M.e_t hM c76z
         refine W.seq ?_
         refine W.region rfl ?_
         refine s_val (x_as (v := B false) rfl) ?_
         refine s_nil ?_
         refine W.ret ?_
         have hr_ := M.e_pure hM
         exact ⟨_, resE_tmp rfl, ⟨false, hr_, rfl, (H.pick [] (by decide) rfl)⟩⟩
        ·replace hM := M.e_f hM c76z
         refine W.skip ?_
         exact ⟨_, upds_of _ _ ⟨rfl, rfl, rfl, rfl, trivial⟩, hM, (H.pick [2, 3, 4, 5, 6, 7, 8, 9, 10, 11] (by decide) rfl)⟩
       ·replace hM := M.e_f hM c61z
        simp only [decide_eq_true_eq, decide_eq_false_iff_not, beq_iff_eq, bne_iff_ne, beq_eq_false_iff_ne, bne_eq_false_iff_eq, ne_eq, Decidable.not_not] at c61z
        refine W.skip ?_
        exact ⟨_, upds_of _ _ ⟨rfl, rfl, rfl, rfl, trivial⟩, hM, H⟩
      ·rintro _ w77z ⟨ρ, rfl, hM, H⟩
       unfold m_nilometerlaw01_LevelWalks_j2 at hM
       refine W.seq ?_
       refine W.region rfl ?_
       refine s_val (x_ld (p := .pointer (some ⟨b_1, 0, none⟩)) (v := .agg #[I n_Marks, v_n_Lines]) rfl (ldb_ag (ds := [I n_Marks, v_n_Lines]) Ag25 Sz25 (H.blk (k := 9) rfl) rfl rfl)) ?_
       obtain ⟨r79z, hx78z, hM⟩ := M.e_bind hM
       refine s_call cf28 [.agg #[I n_Marks, v_n_Lines]] rfl (nilometerlaw01_Net_ok n_Marks n_Lines (hC_n_Lines.app _) hs_n_Lines hx78z _ (St.give (T := [cOwn (α := Leg) 91 u0_10 r06, cOwn (α := Leg) 145 u0_9 r4, cOwn (α := Line) 133 u0_8 r16, cBlk b_7 [I r002, I r012] 37, cOwn (α := Line) 133 u0_6 r13, cBlk b_5 [I r00, I r01] 37, cBlk b_4 [I r0, u0_2] 25, cOwn (α := Leg) 91 u0_3 r3, cOwn (α := Line) 34 u0_2 r1, cBlk b_1 [I n_Marks, v_n_Lines] 25]) H rfl)) ?_
       rintro vq w80z ⟨r09, r111, u0_13, hr81z, hvq, H2_⟩
       subst hr81z
       subst vq
       try dsimp only at hM
       replace H : St w w80z [cOwn (α := Line) 133 u0_13 r111, cOwn (α := Leg) 91 u0_10 r06, cOwn (α := Leg) 145 u0_9 r4, cOwn (α := Line) 133 u0_8 r16, cBlk b_7 [I r002, I r012] 37, cOwn (α := Line) 133 u0_6 r13, cBlk b_5 [I r00, I r01] 37, cBlk b_4 [I r0, u0_2] 25, cOwn (α := Leg) 91 u0_3 r3, cOwn (α := Line) 34 u0_2 r1, cBlk b_1 [I n_Marks, v_n_Lines] 25] R := H.back H2_ rfl
       clear H2_
       obtain ⟨r83z, hx82z, hM⟩ := M.e_bind hM
       refine s_call cf39 [.agg #[I r09, u0_13]] rfl (nilometerref01_Agrees_ok r09 r111 (Reads.of (k := 0) rfl ownLe) (ownSl (H.get (k := 0) rfl)) hx82z _ (St.give (T := [cOwn (α := Line) 133 u0_13 r111, cOwn (α := Leg) 91 u0_10 r06, cOwn (α := Leg) 145 u0_9 r4, cOwn (α := Line) 133 u0_8 r16, cBlk b_7 [I r002, I r012] 37, cOwn (α := Line) 133 u0_6 r13, cBlk b_5 [I r00, I r01] 37, cBlk b_4 [I r0, u0_2] 25, cOwn (α := Leg) 91 u0_3 r3, cOwn (α := Line) 34 u0_2 r1, cBlk b_1 [I n_Marks, v_n_Lines] 25]) H rfl)) ?_
       rintro vq w84z ⟨r010, r112, hr85z, hvq, H2_⟩
       subst hr85z
       subst vq
       try dsimp only at hM
       replace H : St w w84z [cOwn (α := Line) 133 u0_13 r111, cOwn (α := Leg) 91 u0_10 r06, cOwn (α := Leg) 145 u0_9 r4, cOwn (α := Line) 133 u0_8 r16, cBlk b_7 [I r002, I r012] 37, cOwn (α := Line) 133 u0_6 r13, cBlk b_5 [I r00, I r01] 37, cBlk b_4 [I r0, u0_2] 25, cOwn (α := Leg) 91 u0_3 r3, cOwn (α := Line) 34 u0_2 r1, cBlk b_1 [I n_Marks, v_n_Lines] 25] R := H.back H2_ rfl
       clear H2_
       refine s_val (x_mv (v := .tuple #[B r010, I r112]) rfl) ?_
       refine s_val (x_ext (vs := [B r010, I r112]) (v := B r010) rfl rfl) ?_
       refine s_val (x_ext (vs := [B r010, I r112]) (v := I r112) rfl rfl) ?_
       refine s_val (x_as (v := B r010) rfl) ?_
       refine s_val (x_as (v := I r112) rfl) ?_
       refine s_nil ?_
       refine W.seqJ (fun σ W => ∃ (s2 : Int) (ρ : Env), σ = upds ρ [(3, v_legs), (4, .pointer (some ⟨b_1, 0, none⟩)), (9, .pointer (some ⟨b_4, 0, none⟩)), (10, u0_3), (14, I s2)] /\ (m_nilometerlaw01_LevelWalks_j1 n_Marks n_Lines legs r0 r1 r3 s2).Ends r /\ St w W [cOwn (α := Line) 133 u0_13 r111, cOwn (α := Leg) 91 u0_10 r06, cOwn (α := Leg) 145 u0_9 r4, cOwn (α := Line) 133 u0_8 r16, cBlk b_7 [I r002, I r012] 37, cOwn (α := Line) 133 u0_6 r13, cBlk b_5 [I r00, I r01] 37, cBlk b_4 [I r0, u0_2] 25, cOwn (α := Leg) 91 u0_3 r3, cOwn (α := Line) 34 u0_2 r1, cBlk b_1 [I n_Marks, v_n_Lines] 25] R) ?_ ?_
       ·skip
        refine W.seq ?_
        refine W.region rfl ?_
        refine s_val (x_mv (v := B r010) rfl) ?_
        refine s_nil ?_
        refine W.cond r010 rfl (fun c86z => ?_) (fun c86z => ?_)
        ·replace hM := M.e_t hM c86z
         refine W.region rfl ?_
         refine s_val (x_as (v := I 5) rfl) ?_
         refine s_nil ?_
         exact ⟨5, _, upds_of _ _ ⟨rfl, rfl, rfl, rfl, rfl, trivial⟩, hM, H⟩
        ·replace hM := M.e_f hM c86z
         refine W.skip ?_
         exact ⟨r112, _, upds_of _ _ ⟨rfl, rfl, rfl, rfl, rfl, trivial⟩, hM, H⟩
       ·rintro _ w87z ⟨s2, ρ, rfl, hM, H⟩
        unfold m_nilometerlaw01_LevelWalks_j1 at hM
        refine W.seq ?_
        refine W.region rfl ?_
        refine s_val (x_ld (p := .pointer (some ⟨b_4, 0, none⟩)) (v := .agg #[I r0, u0_2]) rfl (ldb_ag (ds := [I r0, u0_2]) Ag25 Sz25 (H.blk (k := 7) rfl) rfl rfl)) ?_
        obtain ⟨r89z, hx88z, hM⟩ := M.e_bind hM
        refine s_call cf50 [.agg #[I r0, u0_2]] rfl (level_Loop_ok r0 r1 (Reads.of (k := 9) rfl ownLe) (ownSl (H.get (k := 9) rfl)) hx88z _ (St.give (T := [cOwn (α := Line) 133 u0_13 r111, cOwn (α := Leg) 91 u0_10 r06, cOwn (α := Leg) 145 u0_9 r4, cOwn (α := Line) 133 u0_8 r16, cBlk b_7 [I r002, I r012] 37, cOwn (α := Line) 133 u0_6 r13, cBlk b_5 [I r00, I r01] 37, cBlk b_4 [I r0, u0_2] 25, cOwn (α := Leg) 91 u0_3 r3, cOwn (α := Line) 34 u0_2 r1, cBlk b_1 [I n_Marks, v_n_Lines] 25]) H rfl)) ?_
        rintro vq w90z ⟨r011, r113, u0_14, hr91z, hvq, H2_⟩
        subst hr91z
        subst vq
        try dsimp only at hM
        replace H : St w w90z [cOwn (α := Leg) 91 u0_14 r011, cOwn (α := Line) 133 u0_13 r111, cOwn (α := Leg) 91 u0_10 r06, cOwn (α := Leg) 145 u0_9 r4, cOwn (α := Line) 133 u0_8 r16, cBlk b_7 [I r002, I r012] 37, cOwn (α := Line) 133 u0_6 r13, cBlk b_5 [I r00, I r01] 37, cBlk b_4 [I r0, u0_2] 25, cOwn (α := Leg) 91 u0_3 r3, cOwn (α := Line) 34 u0_2 r1, cBlk b_1 [I n_Marks, v_n_Lines] 25] R := H.back H2_ rfl
        clear H2_
        refine s_val (x_mv (v := .tuple #[u0_14, I r113]) rfl) ?_
        refine s_val (x_ext (vs := [u0_14, I r113]) (v := u0_14) rfl rfl) ?_
        refine s_val (x_ext (vs := [u0_14, I r113]) (v := I r113) rfl rfl) ?_
        refine s_val (x_as (v := u0_14) rfl) ?_
        refine s_val (x_as (v := I r113) rfl) ?_
        refine s_nil ?_
        refine W.seq ?_
        refine W.seq ?_
        refine W.region rfl ?_
        refine s_val (x_mv (v := I r113) rfl) ?_
        refine s_val (x_mv (v := I s2) rfl) ?_
        refine s_val (x_cmp (kd := .i64) (a := r113) (b := s2) (r := r113 != s2) rfl rfl rfl) ?_
        refine s_val (x_mv (v := B (r113 != s2)) rfl) ?_
        refine g_val (!(r113 != s2)) (gy_f rfl) (fun hg => x_mv (v := I r113) rfl) ?_
        refine g_val (!(r113 != s2)) (gy_f rfl) (fun hg => x_cmp (kd := .i64) (a := r113) (b := 0) (r := r113 != 0) (gd_of (c := !(r113 != s2)) hg (I r113)) rfl rfl) ?_
        refine g_val (!(r113 != s2)) (gy_f rfl) (fun hg => x_mv (v := B (r113 != 0)) (gd_of (c := !(r113 != s2)) hg (B (r113 != 0)))) ?_
        refine g_val ((!(r113 != s2)) && (r113 != 0)) (gy_gt rfl rfl) (fun hg => x_mv (v := u0_14) rfl) ?_
        refine g_val ((!(r113 != s2)) && (r113 != 0)) (gy_gt rfl rfl) (fun hg => x_lenS T88.und (gd_of (c := ((!(r113 != s2)) && (r113 != 0))) hg (u0_14)) (ownSl (H.get (k := 0) rfl))) ?_
        refine g_val ((!(r113 != s2)) && (r113 != 0)) (gy_gt rfl rfl) (fun hg => x_cmp (kd := .i64) (a := (r011.length : Int)) (b := 0) (r := decide (0 < (r011.length : Int))) (gd_of (c := ((!(r113 != s2)) && (r113 != 0))) hg (I (r011.length : Int))) rfl rfl) ?_
        refine g_val (!(r113 != s2)) (gy_f rfl) (fun hg => x_pand (b := r113 != 0) (r := decide (0 < (r011.length : Int))) (gd_of (c := !(r113 != s2)) hg (B (r113 != 0))) (fun hb => gd_of (c := ((!(r113 != s2)) && (r113 != 0))) (by first | exact hb | (rw [hb]; rfl) | simp_all) (B (decide (0 < (r011.length : Int))))) rfl) ?_
        refine s_val (x_por (b := r113 != s2) (r := ((r113 != 0) && (decide (0 < (r011.length : Int))))) rfl rfl (fun hb => gd_of (c := !(r113 != s2)) (by first | exact hb | (rw [hb]; rfl) | simp_all) (B ((r113 != 0) && (decide (0 < (r011.length : Int))))))) ?_
        refine s_nil ?_
        refine W.cond ((r113 != s2) || ((r113 != 0) && (decide (0 < (r011.length : Int))))) rfl (fun c93z => ?_) (fun c93z => ?_)
        ·replace hM := M.e_t hM c93z
         refine W.seq ?_
         refine W.region rfl ?_
         refine s_val (x_as (v := B false) rfl) ?_
         refine s_nil ?_
         refine W.ret ?_
         have hr_ := M.e_pure hM
         exact ⟨_, resE_tmp rfl, ⟨false, hr_, rfl, (H.pick [] (by decide) rfl)⟩⟩
        ·replace hM := M.e_f hM c93z
         refine W.skip ?_
         refine W.seqJ (fun σ W => ∃ (ρ : Env), σ = upds ρ [(3, v_legs), (4, .pointer (some ⟨b_1, 0, none⟩)), (9, .pointer (some ⟨b_4, 0, none⟩)), (10, u0_3)] /\ (m_nilometerlaw01_LevelWalks_j0 n_Marks n_Lines legs r0 r1 r3).Ends r /\ St w W [cOwn (α := Leg) 91 u0_14 r011, cOwn (α := Line) 133 u0_13 r111, cOwn (α := Leg) 91 u0_10 r06, cOwn (α := Leg) 145 u0_9 r4, cOwn (α := Line) 133 u0_8 r16, cBlk b_7 [I r002, I r012] 37, cOwn (α := Line) 133 u0_6 r13, cBlk b_5 [I r00, I r01] 37, cBlk b_4 [I r0, u0_2] 25, cOwn (α := Leg) 91 u0_3 r3, cOwn (α := Line) 34 u0_2 r1, cBlk b_1 [I n_Marks, v_n_Lines] 25] R) ?_ ?_
         ·skip
          refine W.seq ?_
          refine W.region rfl ?_
          refine s_val (x_mv (v := I r113) rfl) ?_
          refine s_val (x_cmp (kd := .i64) (a := r113) (b := 0) (r := r113 == 0) rfl rfl rfl) ?_
          refine s_nil ?_
          refine W.cond (r113 == 0) rfl (fun c94z => ?_) (fun c94z => ?_)
          ·replace hM := M.e_t hM c94z
           simp only [decide_eq_true_eq, decide_eq_false_iff_not, beq_iff_eq, bne_iff_ne, beq_eq_false_iff_ne, bne_eq_false_iff_eq, ne_eq, Decidable.not_not] at c94z
           refine W.seq ?_
           refine W.region rfl ?_
           refine s_val (x_ld (p := .pointer (some ⟨b_1, 0, none⟩)) (v := .agg #[I n_Marks, v_n_Lines]) rfl (ldb_ag (ds := [I n_Marks, v_n_Lines]) Ag25 Sz25 (H.blk (k := 11) rfl) rfl rfl)) ?_
           obtain ⟨r96z, hx95z, hM⟩ := M.e_bind hM
           refine s_call cf28 [.agg #[I n_Marks, v_n_Lines]] rfl (nilometerlaw01_Net_ok n_Marks n_Lines (hC_n_Lines.app _) hs_n_Lines hx95z _ (St.give (T := [cOwn (α := Leg) 91 u0_14 r011, cOwn (α := Line) 133 u0_13 r111, cOwn (α := Leg) 91 u0_10 r06, cOwn (α := Leg) 145 u0_9 r4, cOwn (α := Line) 133 u0_8 r16, cBlk b_7 [I r002, I r012] 37, cOwn (α := Line) 133 u0_6 r13, cBlk b_5 [I r00, I r01] 37, cBlk b_4 [I r0, u0_2] 25, cOwn (α := Leg) 91 u0_3 r3, cOwn (α := Line) 34 u0_2 r1, cBlk b_1 [I n_Marks, v_n_Lines] 25]) H rfl)) ?_
           rintro vq w97z ⟨r013, r114, u0_15, hr98z, hvq, H2_⟩
           subst hr98z
           subst vq
           try dsimp only at hM
           replace H : St w w97z [cOwn (α := Line) 133 u0_15 r114, cOwn (α := Leg) 91 u0_14 r011, cOwn (α := Line) 133 u0_13 r111, cOwn (α := Leg) 91 u0_10 r06, cOwn (α := Leg) 145 u0_9 r4, cOwn (α := Line) 133 u0_8 r16, cBlk b_7 [I r002, I r012] 37, cOwn (α := Line) 133 u0_6 r13, cBlk b_5 [I r00, I r01] 37, cBlk b_4 [I r0, u0_2] 25, cOwn (α := Leg) 91 u0_3 r3, cOwn (α := Line) 34 u0_2 r1, cBlk b_1 [I n_Marks, v_n_Lines] 25] R := H.back H2_ rfl
           clear H2_
           refine s_val (x_mv (v := u0_14) rfl) ?_
           obtain ⟨r100z, hx99z, hM⟩ := M.e_bind hM
           refine s_call cf47 [u0_14] rfl (nilometerlaw01_walk_ok r011 (Reads.of (k := 1) rfl ownLe) (ownSl (H.get (k := 1) rfl)) hx99z _ (St.give (T := [cOwn (α := Line) 133 u0_15 r114, cOwn (α := Leg) 91 u0_14 r011, cOwn (α := Line) 133 u0_13 r111, cOwn (α := Leg) 91 u0_10 r06, cOwn (α := Leg) 145 u0_9 r4, cOwn (α := Line) 133 u0_8 r16, cBlk b_7 [I r002, I r012] 37, cOwn (α := Line) 133 u0_6 r13, cBlk b_5 [I r00, I r01] 37, cBlk b_4 [I r0, u0_2] 25, cOwn (α := Leg) 91 u0_3 r3, cOwn (α := Line) 34 u0_2 r1, cBlk b_1 [I n_Marks, v_n_Lines] 25]) H rfl)) ?_
           rintro vq w101z ⟨r7, u0_16, hr102z, hvq, H2_⟩
           subst hr102z
           subst vq
           try dsimp only at hM
           replace H : St w w101z [cOwn (α := Leg) 145 u0_16 r7, cOwn (α := Line) 133 u0_15 r114, cOwn (α := Leg) 91 u0_14 r011, cOwn (α := Line) 133 u0_13 r111, cOwn (α := Leg) 91 u0_10 r06, cOwn (α := Leg) 145 u0_9 r4, cOwn (α := Line) 133 u0_8 r16, cBlk b_7 [I r002, I r012] 37, cOwn (α := Line) 133 u0_6 r13, cBlk b_5 [I r00, I r01] 37, cBlk b_4 [I r0, u0_2] 25, cOwn (α := Leg) 91 u0_3 r3, cOwn (α := Line) 34 u0_2 r1, cBlk b_1 [I n_Marks, v_n_Lines] 25] R := H.back H2_ rfl
           clear H2_
           obtain ⟨r104z, hx103z, hM⟩ := M.e_bind hM
           refine s_call cf46 [.agg #[I r013, u0_15], u0_16] rfl (nilometerref01_Rises_ok r013 r114 r7 (Reads.of (k := 1) rfl ownLe) (ownSl (H.get (k := 1) rfl)) (Reads.of (k := 0) rfl ownLe) (ownSl (H.get (k := 0) rfl)) hx103z _ (St.give (T := [cOwn (α := Leg) 145 u0_16 r7, cOwn (α := Line) 133 u0_15 r114, cOwn (α := Leg) 91 u0_14 r011, cOwn (α := Line) 133 u0_13 r111, cOwn (α := Leg) 91 u0_10 r06, cOwn (α := Leg) 145 u0_9 r4, cOwn (α := Line) 133 u0_8 r16, cBlk b_7 [I r002, I r012] 37, cOwn (α := Line) 133 u0_6 r13, cBlk b_5 [I r00, I r01] 37, cBlk b_4 [I r0, u0_2] 25, cOwn (α := Leg) 91 u0_3 r3, cOwn (α := Line) 34 u0_2 r1, cBlk b_1 [I n_Marks, v_n_Lines] 25]) H rfl)) ?_
           rintro vq w105z ⟨r014, r115, r25, r35, hr106z, hvq, H2_⟩
           subst hr106z
           subst vq
           try dsimp only at hM
           replace H : St w w105z [cOwn (α := Leg) 145 u0_16 r7, cOwn (α := Line) 133 u0_15 r114, cOwn (α := Leg) 91 u0_14 r011, cOwn (α := Line) 133 u0_13 r111, cOwn (α := Leg) 91 u0_10 r06, cOwn (α := Leg) 145 u0_9 r4, cOwn (α := Line) 133 u0_8 r16, cBlk b_7 [I r002, I r012] 37, cOwn (α := Line) 133 u0_6 r13, cBlk b_5 [I r00, I r01] 37, cBlk b_4 [I r0, u0_2] 25, cOwn (α := Leg) 91 u0_3 r3, cOwn (α := Line) 34 u0_2 r1, cBlk b_1 [I n_Marks, v_n_Lines] 25] R := H.back H2_ rfl
           clear H2_
           refine s_val (x_mv (v := .tuple #[I r014, I r115, I r25, I r35]) rfl) ?_
           refine s_val (x_ext (vs := [I r014, I r115, I r25, I r35]) (v := I r014) rfl rfl) ?_
           refine s_val (x_ext (vs := [I r014, I r115, I r25, I r35]) (v := I r115) rfl rfl) ?_
           refine s_val (x_ext (vs := [I r014, I r115, I r25, I r35]) (v := I r25) rfl rfl) ?_
           refine s_val (x_ext (vs := [I r014, I r115, I r25, I r35]) (v := I r35) rfl rfl) ?_
           refine s_val (x_as (v := I r014) rfl) ?_
           refine s_val (x_as (v := I r115) rfl) ?_
           refine s_val (x_as (v := I r25) rfl) ?_
           refine s_val (x_as (v := I r35) rfl) ?_
           refine s_nil ?_
           refine W.seq ?_
           refine W.region rfl ?_
           refine s_val (x_mv (v := I r35) rfl) ?_
           refine s_val (x_cmp (kd := .i64) (a := r35) (b := 0) (r := r35 != 0) rfl rfl rfl) ?_
           refine s_val (x_mv (v := B (r35 != 0)) rfl) ?_
           refine g_val (!(r35 != 0)) (gy_f rfl) (fun hg => x_mv (v := I r014) rfl) ?_
           refine g_val (!(r35 != 0)) (gy_f rfl) (fun hg => x_mv (v := I r115) rfl) ?_
           refine g_val (!(r35 != 0)) (gy_f rfl) (fun hg => x_cmp (kd := .i64) (a := r014) (b := r115) (r := r014 != r115) (gd_of (c := !(r35 != 0)) hg (I r014)) (gd_of (c := !(r35 != 0)) hg (I r115)) rfl) ?_
           refine s_val (x_por (b := r35 != 0) (r := r014 != r115) rfl rfl (fun hb => gd_of (c := !(r35 != 0)) (by first | exact hb | (rw [hb]; rfl) | simp_all) (B (r014 != r115)))) ?_
           refine s_val (x_mv (v := B ((r35 != 0) || (r014 != r115))) rfl) ?_
           refine g_val (!((r35 != 0) || (r014 != r115))) (gy_f rfl) (fun hg => x_mv (v := I r25) rfl) ?_
           refine g_val (!((r35 != 0) || (r014 != r115))) (gy_f rfl) (fun hg => x_cmp (kd := .i64) (a := r25) (b := 0) (r := decide (0 <= r25)) (gd_of (c := !((r35 != 0) || (r014 != r115))) hg (I r25)) rfl rfl) ?_
           refine s_val (x_por (b := ((r35 != 0) || (r014 != r115))) (r := decide (0 <= r25)) rfl rfl (fun hb => gd_of (c := !((r35 != 0) || (r014 != r115))) (by first | exact hb | (rw [hb]; rfl) | simp_all) (B (decide (0 <= r25))))) ?_
           refine s_val (x_mv (v := B (((r35 != 0) || (r014 != r115)) || (decide (0 <= r25)))) rfl) ?_
           refine g_val (!(((r35 != 0) || (r014 != r115)) || (decide (0 <= r25)))) (gy_f rfl) (fun hg => x_ld (p := .pointer (some ⟨b_1, 0, none⟩)) (v := .agg #[I n_Marks, v_n_Lines]) rfl (ldb_ag (ds := [I n_Marks, v_n_Lines]) Ag25 Sz25 (H.blk (k := 13) rfl) rfl rfl)) ?_
           refine g_val (!(((r35 != 0) || (r014 != r115)) || (decide (0 <= r25)))) (gy_f rfl) (fun hg => x_mv (v := u0_14) rfl) ?_
           obtain ⟨r8, hx107z, hM⟩ := M.e_bind hM
           refine t_gcall (!(((r35 != 0) || (r014 != r115)) || (decide (0 <= r25)))) (gy_f rfl) cf49 (B r8) (fun _ => [.agg #[I n_Marks, v_n_Lines], u0_14, B false]) (fun hg => lst3 (gd_of (c := !(((r35 != 0) || (r014 != r115)) || (decide (0 <= r25)))) hg (.agg #[I n_Marks, v_n_Lines])) (gd_of (c := !(((r35 != 0) || (r014 != r115)) || (decide (0 <= r25)))) hg (u0_14)) rfl) H (fun hg => (nilometerlaw01_twice_ok n_Marks n_Lines r011 false (hC_n_Lines.app _) hs_n_Lines (Reads.of (k := 2) rfl ownLe) (ownSl (H.get (k := 2) rfl)) (M.e_opt hx107z hg) _ (H.give (A := []) rfl)).mono fun v_ w_ ⟨y_, hr_, hv_, H_⟩ => by subst hr_; exact ⟨hv_, H.via H_⟩) ?_
           intro w108z H
           refine s_val (x_por (b := (((r35 != 0) || (r014 != r115)) || (decide (0 <= r25)))) (r := r8) rfl rfl (fun hb => gd_of (c := !(((r35 != 0) || (r014 != r115)) || (decide (0 <= r25)))) (by first | exact hb | (rw [hb]; rfl) | simp_all) (B r8))) ?_
           refine s_nil ?_
           refine W.cond ((((r35 != 0) || (r014 != r115)) || (decide (0 <= r25))) || r8) rfl (fun c109z => ?_) (fun c109z => ?_)
           ·replace hM := M.e_t hM c109z
            refine W.seq ?_
            refine W.region rfl ?_
            refine s_val (x_as (v := B false) rfl) ?_
            refine s_nil ?_
            refine W.ret ?_
            have hr_ := M.e_pure hM
            exact ⟨_, resE_tmp rfl, ⟨false, hr_, rfl, (H.pick [] (by decide) rfl)⟩⟩
           ·replace hM := M.e_f hM c109z
            refine W.skip ?_
            exact ⟨_, upds_of _ _ ⟨rfl, rfl, rfl, rfl, trivial⟩, hM, (H.pick [2, 3, 4, 5, 6, 7, 8, 9, 10, 11, 12, 13] (by decide) rfl)⟩
          ·replace hM := M.e_f hM c94z
           simp only [decide_eq_true_eq, decide_eq_false_iff_not, beq_iff_eq, bne_iff_ne, beq_eq_false_iff_ne, bne_eq_false_iff_eq, ne_eq, Decidable.not_not] at c94z
           refine W.skip ?_
           exact ⟨_, upds_of _ _ ⟨rfl, rfl, rfl, rfl, trivial⟩, hM, H⟩
         ·rintro _ w110z ⟨ρ, rfl, hM, H⟩
          unfold m_nilometerlaw01_LevelWalks_j0 at hM
          refine W.seq ?_
          refine W.region rfl ?_
          refine s_val (x_ld (p := .pointer (some ⟨b_4, 0, none⟩)) (v := .agg #[I r0, u0_2]) rfl (ldb_ag (ds := [I r0, u0_2]) Ag25 Sz25 (H.blk (k := 8) rfl) rfl rfl)) ?_
          refine s_val (x_ld (p := .pointer (some ⟨b_1, 0, none⟩)) (v := .agg #[I n_Marks, v_n_Lines]) rfl (ldb_ag (ds := [I n_Marks, v_n_Lines]) Ag25 Sz25 (H.blk (k := 11) rfl) rfl rfl)) ?_
          obtain ⟨r112z, hx111z, hM⟩ := M.e_bind hM
          refine s_call cf29 [.agg #[I r0, u0_2], .agg #[I n_Marks, v_n_Lines]] rfl (nilometerlaw01_same_ok r0 r1 n_Marks n_Lines (Reads.of (k := 10) rfl ownLe) (ownSl (H.get (k := 10) rfl)) (hC_n_Lines.app _) hs_n_Lines hx111z _ (St.give (T := [cOwn (α := Leg) 91 u0_14 r011, cOwn (α := Line) 133 u0_13 r111, cOwn (α := Leg) 91 u0_10 r06, cOwn (α := Leg) 145 u0_9 r4, cOwn (α := Line) 133 u0_8 r16, cBlk b_7 [I r002, I r012] 37, cOwn (α := Line) 133 u0_6 r13, cBlk b_5 [I r00, I r01] 37, cBlk b_4 [I r0, u0_2] 25, cOwn (α := Leg) 91 u0_3 r3, cOwn (α := Line) 34 u0_2 r1, cBlk b_1 [I n_Marks, v_n_Lines] 25]) H rfl)) ?_
          rintro vq w113z ⟨r9, hr114z, hvq, H2_⟩
          subst hr114z
          subst vq
          try dsimp only at hM
          replace H : St w w113z [cOwn (α := Leg) 91 u0_14 r011, cOwn (α := Line) 133 u0_13 r111, cOwn (α := Leg) 91 u0_10 r06, cOwn (α := Leg) 145 u0_9 r4, cOwn (α := Line) 133 u0_8 r16, cBlk b_7 [I r002, I r012] 37, cOwn (α := Line) 133 u0_6 r13, cBlk b_5 [I r00, I r01] 37, cBlk b_4 [I r0, u0_2] 25, cOwn (α := Leg) 91 u0_3 r3, cOwn (α := Line) 34 u0_2 r1, cBlk b_1 [I n_Marks, v_n_Lines] 25] R := H.back H2_ rfl
          clear H2_
          refine s_val (x_mv (v := B r9) rfl) ?_
          refine g_val r9 (gy_t rfl) (fun hg => x_mv (v := u0_3) rfl) ?_
          refine g_val r9 (gy_t rfl) (fun hg => x_mv (v := v_legs) rfl) ?_
          obtain ⟨r10, hx115z, hM⟩ := M.e_bind hM
          refine t_gcall r9 (gy_t rfl) cf51 (B r10) (fun _ => [u0_3, v_legs]) (fun hg => lst2 (gd_of (c := r9) hg (u0_3)) (gd_of (c := r9) hg (v_legs))) H (fun hg => (nilometerkit_Same_level_Leg_ok r3 legs (Reads.of (k := 9) rfl ownLe) (ownSl (H.get (k := 9) rfl)) (hC_legs.app _) hs_legs (M.e_opt hx115z hg) _ (H.give (A := []) rfl)).mono fun v_ w_ ⟨y_, hr_, hv_, H_⟩ => by subst hr_; exact ⟨hv_, H.via H_⟩) ?_
          intro w116z H
          refine s_val (x_pand (b := r9) (r := r10) rfl (fun hb => gd_of (c := r9) (by first | exact hb | (rw [hb]; rfl) | simp_all) (B r10)) rfl) ?_
          refine s_val (x_mv (v := B (r9 && r10)) rfl) ?_
          obtain ⟨r11, hx117z, hM⟩ := M.e_bind hM
          refine t_gcall (r9 && r10) (gy_t rfl) cf18 (B r11) (fun _ => []) (fun _ => rfl) H (fun hg => (nilometerlaw01_awake_ok (M.e_opt hx117z hg) _ (H.give (A := []) rfl)).mono fun v_ w_ ⟨y_, hr_, hv_, H_⟩ => by subst hr_; exact ⟨hv_, H.via H_⟩) ?_
          intro w118z H
          refine s_val (x_pand (b := (r9 && r10)) (r := r11) rfl (fun hb => gd_of (c := (r9 && r10)) (by first | exact hb | (rw [hb]; rfl) | simp_all) (B r11)) rfl) ?_
          refine s_val (x_as (v := B ((r9 && r10) && r11)) rfl) ?_
          refine s_nil ?_
          refine W.ret ?_
          have hr_ := M.e_pure hM
          exact ⟨_, resE_tmp rfl, ⟨((r9 && r10) && r11), hr_, rfl, (H.pick [] (by decide) rfl)⟩⟩

end Go.Proofs.Ytclhljenjphofaa
end
namespace Go.Nm
namespace M
variable {α β σ ρ : Type}
def Out (m : M α) (Q : α -> Prop) : Prop := ∃ r, m.Ends r /\ Q r
theorem o_of {m : M α} {a : α} {Q : α -> Prop} (h : m.Ends a) (q : Q a) : m.Out Q := ⟨a, h, q⟩
theorem o_pure {a : α} {Q : α -> Prop} (h : Q a) : (pure a).Out Q := ⟨a, i_pure, h⟩
theorem o_mono {m : M α} {P Q : α -> Prop} (h : m.Out P) (k : ∀ a, P a -> Q a) : m.Out Q := by
  obtain ⟨a, h1, h2⟩ := h
  exact ⟨a, h1, k a h2⟩
theorem o_bind {m : M α} {k : α -> M β} {P : α -> Prop} {Q : β -> Prop} (h : m.Out P) (h' : ∀ a, P a -> (k a).Out Q) : (bind m k).Out Q := by
  obtain ⟨a, h1, h2⟩ := h
  obtain ⟨b, h3, h4⟩ := h' a h2
  exact ⟨b, i_bind h1 h3, h4⟩
theorem o_bindE {m : M α} {k : α -> M β} {a : α} {Q : β -> Prop} (h : m.Ends a) (h' : (k a).Out Q) : (bind m k).Out Q := o_bind (o_of (Q := fun x => x = a) h rfl) (fun _ e => by subst e; exact h')
theorem o_grd {b : Bool} {k : M α} {Q : α -> Prop} (hb : b = true) (h : k.Out Q) : (grd b k).Out Q := by subst hb; exact h
theorem o_grdD {p : Prop} [Decidable p] {k : M α} {Q : α -> Prop} (hp : p) (h : k.Out Q) : (grd (decide p) k).Out Q := o_grd (decide_eq_true hp) h
theorem o_if {b : Bool} {x y : M α} {Q : α -> Prop} (h : b = true -> x.Out Q) (h' : b = false -> y.Out Q) : (bif b then x else y).Out Q := by
  cases b with
  | true => exact h rfl
  | false => exact h' rfl
theorem o_t {b : Bool} {x y : M α} {Q : α -> Prop} (hb : b = true) (h : x.Out Q) : (bif b then x else y).Out Q := by subst hb; exact h
theorem o_f {b : Bool} {x y : M α} {Q : α -> Prop} (hb : b = false) (h : y.Out Q) : (bif b then x else y).Out Q := by subst hb; exact h
/-- What a round leaves. -/
def Rd (J : Nat -> σ -> Prop) (Q : ρ -> Prop) (m : Nat) : σ ⊕ ρ -> Prop
  | .inl s => ∃ m', m' < m /\ J m' s
  | .inr r => Q r
theorem o_iter {body : σ -> M (σ ⊕ ρ)} {Q : ρ -> Prop} (J : Nat -> σ -> Prop) (round : ∀ m s, J m s -> (body s).Out (Rd J Q m)) : ∀ (m : Nat) (s : σ), J m s -> (iter body s).Out Q := by
  intro m
  induction m using Nat.strongRecOn with
  | _ m ih =>
    intro s hs
    obtain ⟨x, h1, h2⟩ := round m s hs
    cases x with
    | inl s' =>
      obtain ⟨m', hlt, hj⟩ := h2
      obtain ⟨r, h3, h4⟩ := ih m' hlt s' hj
      exact ⟨r, i_next h1 h3, h4⟩
    | inr r => exact ⟨r, i_stop h1, h2⟩
/-- A loop that counts from 0 to n. -/
theorem o_for {body : σ -> M (σ ⊕ ρ)} {Q : ρ -> Prop} (n : Nat) (J : Nat -> σ -> Prop) (round : ∀ i s, i < n -> J i s -> (body s).Out (fun x => match x with | .inl s' => J (i + 1) s' | .inr r => Q r))
    (last : ∀ s, J n s -> (body s).Out (fun x => match x with | .inl _ => False | .inr r => Q r)) {s : σ} (h : J 0 s) : (iter body s).Out Q := by
  refine o_iter (fun m s => ∃ i, i <= n /\ m = n - i /\ J i s) ?_ n s ⟨0, Nat.zero_le _, rfl, h⟩
  rintro m s ⟨i, hi, rfl, hj⟩
  by_cases e : i < n
  · refine o_mono (round i s e hj) ?_
    intro x hx
    cases x with
    | inl s' => exact ⟨n - (i + 1), by omega, i + 1, e, rfl, hx⟩
    | inr r => exact hx
  · obtain rfl : i = n := by omega
    refine o_mono (last s hj) ?_
    intro x hx
    cases x with
    | inl s' => exact hx.elim
    | inr r => exact hx
end M
theorem M.i_f {α : Type} {b : Bool} {x y : M α} {r : α} (hb : b = false) (h : y.Ends r) : (bif b then x else y).Ends r := by subst hb; exact h
theorem M.i_t {α : Type} {b : Bool} {x y : M α} {r : α} (hb : b = true) (h : x.Ends r) : (bif b then x else y).Ends r := by subst hb; exact h
theorem take_succ_D {α : Type} (l : List α) (i : Nat) (h : i < l.length) (d : α) : l.take i ++ [l.getD i d] = l.take (i + 1) := by
  rw [List.take_succ_eq_append_getElem h]
  simp [List.getD, h]
theorem gset {α : Type} (l : List α) (i j : Nat) (x d : α) (h : i < l.length) : (l.set i x).getD j d = if j = i then x else l.getD j d := by
  simp only [List.getD_eq_getElem?_getD, List.getElem?_set]
  by_cases e : i = j
  · subst e; simp [h]
  · rw [if_neg e, if_neg (fun h => e h.symm)]
theorem getD_el {α : Type} (l : List α) {k : Nat} (h : k < l.length) (d : α) : l.getD k d = l[k] := by rw [List.getD_eq_getElem?_getD, List.getElem?_eq_getElem h, Option.getD_some]
theorem gOr {c : Bool} {p : Prop} [Decidable p] (hp : p) : (!c || decide p) = true := by rw [decide_eq_true hp, Bool.or_true]
theorem gOr2 {c : Bool} {p q : Prop} [Decidable p] [Decidable q] (hp : p) (hq : q) : (!c || (decide p && decide q)) = true := by rw [decide_eq_true hp, decide_eq_true hq]; cases c <;> rfl
theorem gA2 {p q : Prop} [Decidable p] [Decidable q] (hp : p) (hq : q) : (decide p && decide q) = true := by rw [decide_eq_true hp, decide_eq_true hq]; rfl
theorem nodup_bound : ∀ (n : Nat) (l : List Int), l.Nodup -> (∀ x ∈ l, 0 <= x /\ x < n) -> l.length <= n
  | 0, l, _, hb => by
    cases l with
    | nil => exact Nat.le_refl _
    | cons x l => have := hb x (by simp); omega
  | n + 1, l, hn, hb => by
    by_cases hm : (n : Int) ∈ l
    · have h1 : (l.erase (n : Int)).length = l.length - 1 := List.length_erase_of_mem hm
      have h2 := nodup_bound n (l.erase (n : Int)) (hn.erase _) (fun x hx => by
        have hx' := (List.Nodup.mem_erase_iff hn).1 hx
        have := hb x hx'.2
        have := hx'.1
        omega)
      have := List.length_pos_of_mem hm
      omega
    · have := nodup_bound n l hn (fun x hx => by
        have := hb x hx
        have : x ≠ n := fun e => hm (e ▸ hx)
        omega)
      omega
theorem mem_getD {α : Type} {l : List α} {x : α} (h : x ∈ l) (d : α) : ∃ i, i < l.length /\ l.getD i d = x := by
  obtain ⟨i, hi, e⟩ := List.getElem_of_mem h
  exact ⟨i, hi, by rw [getD_el l hi d]; exact e⟩
end Go.Nm
namespace Go.Nm
/-- A leg leads from a mark to another one, and can rise so much. -/
def Ed (ls : List Line) (a b c : Int) : Prop := ∃ l, l ∈ ls /\ ((l.src = a /\ l.dst = b /\ c = l.err + l.rise) ∨ (l.dst = a /\ l.src = b /\ c = l.err - l.rise))
/-- Heights agree with all lines. -/
def Feas (ls : List Line) (h : Int -> Int) : Prop := ∀ l, l ∈ ls -> l.rise - l.err <= h l.dst - h l.src /\ h l.dst - h l.src <= l.rise + l.err
inductive Wk (ls : List Line) (a : Int) : List Int -> Int -> Prop
  | one : Wk ls a [a] 0
  | snoc {m b : Int} {vs : List Int} {c e : Int} (w : Wk ls a (m :: vs) c) (he : Ed ls m b e) : Wk ls a (b :: m :: vs) (c + e)
variable {ls : List Line} {h : Int -> Int} {a b c : Int}
theorem Feas.ed (hF : Feas ls h) (e : Ed ls a b c) : h b - h a <= c := by
  obtain ⟨l, hl, ⟨rfl, rfl, rfl⟩ | ⟨rfl, rfl, rfl⟩⟩ := e
  · have := hF l hl; omega
  · have := hF l hl; omega
theorem feas_of (hE : ∀ a b c, Ed ls a b c -> h b - h a <= c) : Feas ls h := fun l hl => by
  have h1 := hE l.src l.dst _ ⟨l, hl, .inl ⟨rfl, rfl, rfl⟩⟩
  have h2 := hE l.dst l.src _ ⟨l, hl, .inr ⟨rfl, rfl, rfl⟩⟩
  omega
theorem Ed.rev (e : Ed ls a b c) : ∃ c', Ed ls b a c' := by
  obtain ⟨l, hl, ⟨rfl, rfl, rfl⟩ | ⟨rfl, rfl, rfl⟩⟩ := e
  · exact ⟨_, l, hl, .inr ⟨rfl, rfl, rfl⟩⟩
  · exact ⟨_, l, hl, .inl ⟨rfl, rfl, rfl⟩⟩
theorem Ed.sub {ks : List Line} (e : Ed ls a b c) (hs : ∀ l, l ∈ ls -> l ∈ ks) : Ed ks a b c := by
  obtain ⟨l, hl, h⟩ := e
  exact ⟨l, hs l hl, h⟩
theorem Wk.sub {ks : List Line} {vs : List Int} (w : Wk ls a vs c) (hs : ∀ l, l ∈ ls -> l ∈ ks) : Wk ks a vs c := by
  induction w with
  | one => exact .one
  | snoc _ he ih => exact .snoc ih (he.sub hs)
theorem Wk.feas (hF : Feas ls h) {vs : List Int} (w : Wk ls a vs c) : ∀ b, vs.head? = some b -> h b - h a <= c := by
  induction w with
  | one => intro b hb; simp at hb; subst hb; omega
  | snoc _ he ih =>
    intro b hb
    simp at hb
    subst hb
    have h1 := ih _ rfl
    have h2 := hF.ed he
    omega
theorem Wk.le (hF : Feas ls h) {vs : List Int} (w : Wk ls a (b :: vs) c) : h b - h a <= c := w.feas hF b rfl
theorem Wk.ne {c : Int} (w : Wk ls a [] c) : False := by cases w
theorem Wk.last {vs : List Int} (w : Wk ls a vs c) : vs.getLast? = some a := by
  induction w with
  | one => rfl
  | snoc _ _ ih => rw [List.getLast?_cons_cons]; exact ih
/-- The end of a walk, put behind another one. -/
theorem Wk.cut : ∀ (xs : List Int) {v : Int} {ys : List Int} {c : Int}, Wk ls a (xs ++ v :: ys) c -> ∃ c1, Wk ls a (v :: ys) c1 /\ ∀ (a' : Int) (zs : List Int) (c2 : Int), Wk ls a' (v :: zs) c2 -> Wk ls a' (xs ++ v :: zs) (c2 + (c - c1))
  | [], v, ys, c, w => ⟨c, w, fun a' zs c2 w2 => by rw [show c2 + (c - c) = c2 by omega]; exact w2⟩
  | [x], v, ys, c, w => by
    cases w with
    | snoc w he =>
      refine ⟨_, w, fun a' zs c2 w2 => ?_⟩
      rename_i c0 e
      rw [show c2 + (c0 + e - c0) = c2 + e by omega]
      exact .snoc w2 he
  | x :: y :: xs, v, ys, c, w => by
    cases w with
    | snoc w he =>
      rename_i c0 e
      obtain ⟨c1, h1, h2⟩ := Wk.cut (y :: xs) w
      refine ⟨c1, h1, fun a' zs c2 w2 => ?_⟩
      have := h2 a' zs c2 w2
      rw [show c2 + (c0 + e - c1) = c2 + (c0 - c1) + e by omega]
      exact .snoc this he
theorem Wk.app {m : Int} {vs ws : List Int} {c d : Int} (w : Wk ls a (m :: vs) c) (w' : Wk ls m (b :: ws) d) : ∃ us, Wk ls a (b :: us) (c + d) := by
  generalize hl : b :: ws = l at w'
  induction w' generalizing b ws with
  | one => cases hl; exact ⟨vs, by rw [Int.add_zero]; exact w⟩
  | snoc w2 he ih =>
    cases hl
    obtain ⟨us, hu⟩ := ih rfl
    exact ⟨_, by rw [← Int.add_assoc]; exact .snoc hu he⟩
theorem Wk.edge (e : Ed ls a b c) : Wk ls a [b, a] c := by
  have := Wk.snoc (.one (ls := ls) (a := a)) e
  rwa [Int.zero_add] at this
/-- Who can go can go back. -/
theorem Wk.back {vs : List Int} (w : Wk ls a vs c) : ∀ b, vs.head? = some b -> ∃ us d, Wk ls b (a :: us) d := by
  induction w with
  | one => intro b hb; simp at hb; subst hb; exact ⟨[], 0, .one⟩
  | snoc _ he ih =>
    intro b hb
    simp at hb
    subst hb
    obtain ⟨c', hr⟩ := he.rev
    obtain ⟨us, d, hw⟩ := ih _ rfl
    obtain ⟨vs, hv⟩ := (Wk.edge hr).app hw
    exact ⟨vs, _, hv⟩
theorem not_nodup : ∀ (l : List Int), ¬ l.Nodup -> ∃ xs v ys zs, l = xs ++ v :: (ys ++ v :: zs)
  | [], h => absurd List.nodup_nil h
  | x :: l, h => by
    by_cases hx : x ∈ l
    · obtain ⟨ys, zs, rfl⟩ := List.append_of_mem hx
      exact ⟨[], x, ys, zs, rfl⟩
    · obtain ⟨xs, v, ys, zs, e⟩ := not_nodup l (fun hn => h (List.nodup_cons.2 ⟨hx, hn⟩))
      exact ⟨x :: xs, v, ys, zs, by rw [e]; rfl⟩
/-- A walk without a mark twice can rise no more, if some heights agree. -/
theorem Wk.short (hF : Feas ls h) : ∀ (k : Nat) {vs : List Int} {b c : Int}, vs.length <= k -> Wk ls a (b :: vs) c -> ∃ vs' c', Wk ls a (b :: vs') c' /\ c' <= c /\ (b :: vs').Nodup
  | 0, vs, b, c, hk, w => by
    have : vs = [] := List.length_eq_zero_iff.1 (Nat.le_zero.1 hk)
    subst this
    exact ⟨[], c, w, Int.le_refl _, by simp⟩
  | k + 1, vs, b, c, hk, w => by
    by_cases hn : (b :: vs).Nodup
    · exact ⟨vs, c, w, Int.le_refl _, hn⟩
    · obtain ⟨xs, v, ys, zs, e⟩ := not_nodup _ hn
      rw [e] at w
      obtain ⟨c1, w1, t1⟩ := Wk.cut xs w
      obtain ⟨c2, w2, t2⟩ := Wk.cut (v :: ys) (v := v) (ys := zs) w1
      have w3 := t2 v [] 0 .one
      have h3 : 0 <= c1 - c2 := by have := Wk.le hF w3; omega
      have w4 := t1 a zs c2 w2
      have hlen : (xs ++ v :: zs).length <= k + 1 := by
        have := congrArg List.length e
        simp at this hk ⊢
        omega
      cases xs with
      | nil =>
        simp only [List.nil_append] at e w4 hlen
        have hb : b = v := (List.cons.inj e).1
        subst hb
        obtain ⟨vs', c', g1, g2, g3⟩ := Wk.short hF k (by simpa using hlen) w4
        exact ⟨vs', c', g1, by omega, g3⟩
      | cons x xs =>
        simp only [List.cons_append] at e w4 hlen
        have hb : b = x := (List.cons.inj e).1
        subst hb
        obtain ⟨vs', c', g1, g2, g3⟩ := Wk.short hF k (by simpa using hlen) w4
        exact ⟨vs', c', g1, by omega, g3⟩
/-- All lines lie between marks. -/
def Rng (n : Int) (ls : List Line) : Prop := ∀ l, l ∈ ls -> (0 <= l.src /\ l.src < n) /\ (0 <= l.dst /\ l.dst < n)
theorem Ed.rng {n : Int} (hR : Rng n ls) (e : Ed ls a b c) : (0 <= a /\ a < n) /\ (0 <= b /\ b < n) := by
  obtain ⟨l, hl, ⟨rfl, rfl, rfl⟩ | ⟨rfl, rfl, rfl⟩⟩ := e
  · exact hR l hl
  · exact ⟨(hR l hl).2, (hR l hl).1⟩
theorem Wk.rng {n : Int} (hR : Rng n ls) (ha : 0 <= a /\ a < n) {vs : List Int} (w : Wk ls a vs c) : ∀ v, v ∈ vs -> 0 <= v /\ v < n := by
  induction w with
  | one => intro v hv; simp at hv; subst hv; exact ha
  | snoc _ he ih =>
    intro v hv
    rcases List.mem_cons.1 hv with rfl | hv
    · exact (he.rng hR).2
    · exact ih v hv
/-- A shortest walk has fewer legs than there are marks. -/
theorem Wk.few {n : Nat} (hF : Feas ls h) (hR : Rng n ls) (ha : 0 <= a /\ a < n) {vs : List Int} (w : Wk ls a (b :: vs) c) : ∃ vs' c', Wk ls a (b :: vs') c' /\ c' <= c /\ (b :: vs').Nodup /\ vs'.length + 1 <= n := by
  obtain ⟨vs', c', g1, g2, g3⟩ := Wk.short hF _ (Nat.le_refl _) w
  exact ⟨vs', c', g1, g2, g3, nodup_bound n _ g3 (g1.rng hR ha)⟩
/-- What a walk can rise lies between bounds, as long as a leg's does. -/
theorem Wk.size (hB : ∀ a b c, Ed ls a b c -> -1010000 <= c /\ c <= 1010000) {vs : List Int} (w : Wk ls a vs c) : -(1010000 * (vs.length : Int)) + 1010000 <= c /\ c <= 1010000 * (vs.length : Int) - 1010000 := by
  induction w with
  | one => simp
  | @snoc m b vs c e _ he ih =>
    have h1 := hB _ _ _ he
    simp only [List.length_cons, Int.natCast_succ] at ih ⊢
    omega
/-- The greatest difference. -/
structure IsDist (ls : List Line) (a b d : Int) : Prop where
  has : ∃ vs, Wk ls a (b :: vs) d
  le : ∀ vs c, Wk ls a (b :: vs) c -> d <= c
def Tied (ls : List Line) (a b : Int) : Prop := ∃ vs c, Wk ls a (b :: vs) c
theorem IsDist.tied {d : Int} (h : IsDist ls a b d) : Tied ls a b := let ⟨vs, w⟩ := h.has; ⟨vs, d, w⟩
theorem Tied.refl (ls : List Line) (a : Int) : Tied ls a a := ⟨[], 0, .one⟩
theorem Tied.symm (t : Tied ls a b) : Tied ls b a := by
  obtain ⟨vs, c, w⟩ := t
  obtain ⟨us, d, h⟩ := w.back b rfl
  exact ⟨us, d, h⟩
theorem Tied.trans {m : Int} (t : Tied ls a m) (u : Tied ls m b) : Tied ls a b := by
  obtain ⟨vs, c, w⟩ := t
  obtain ⟨us, d, w'⟩ := u
  obtain ⟨xs, h⟩ := w.app w'
  exact ⟨xs, _, h⟩
theorem Tied.ed (e : Ed ls a b c) : Tied ls a b := ⟨_, _, Wk.edge e⟩
theorem least_nat {p : Nat -> Prop} (h : ∃ n, p n) : ∃ n, p n /\ ∀ k, p k -> n <= k := by
  obtain ⟨n, hn⟩ := h
  induction n using Nat.strongRecOn with
  | _ n ih =>
    by_cases hc : ∃ k, k < n /\ p k
    · obtain ⟨k, hk, hp⟩ := hc
      exact ih k hk hp
    · exact ⟨n, hn, fun k hk => by
        rcases Nat.lt_or_ge k n with hlt | hge
        · exact absurd ⟨k, hlt, hk⟩ hc
        · exact hge⟩
theorem dist_ex (hF : Feas ls h) (t : Tied ls a b) : ∃ d, IsDist ls a b d := by
  obtain ⟨vs, c, w⟩ := t
  obtain ⟨k, ⟨vs', w'⟩, hk⟩ := least_nat (p := fun k => ∃ vs, Wk ls a (b :: vs) (h b - h a + k)) ⟨(c - (h b - h a)).toNat, vs, by
    have := w.le hF
    rw [show h b - h a + ((c - (h b - h a)).toNat : Int) = c by omega]; exact w⟩
  refine ⟨_, ⟨vs', w'⟩, fun us c' wc => ?_⟩
  have h1 := wc.le hF
  have h2 := hk (c' - (h b - h a)).toNat ⟨us, by rw [show h b - h a + ((c' - (h b - h a)).toNat : Int) = c' by omega]; exact wc⟩
  omega
theorem IsDist.uniq {d d' : Int} (h1 : IsDist ls a b d) (h2 : IsDist ls a b d') : d = d' := by
  obtain ⟨vs, w⟩ := h1.has
  obtain ⟨us, w'⟩ := h2.has
  have := h1.le _ _ w'
  have := h2.le _ _ w
  omega
theorem IsDist.self (hF : Feas ls h) : IsDist ls a a 0 := ⟨⟨[], .one⟩, fun _ _ w => by have := w.le hF; omega⟩
theorem IsDist.step {m d e : Int} (h1 : IsDist ls a m d) (he : Ed ls m b e) {d' : Int} (h2 : IsDist ls a b d') : d' <= d + e := by
  obtain ⟨vs, w⟩ := h1.has
  exact h2.le _ _ (.snoc w he)
theorem IsDist.feas {d : Int} (hF : Feas ls h) (h1 : IsDist ls a b d) : h b - h a <= d := by
  obtain ⟨vs, w⟩ := h1.has
  exact w.le hF
end Go.Nm
namespace Go.Nm
/-- A net as it may be. -/
structure NetOk (n : Int) (ls : List Line) : Prop where
  marks : 1 <= n /\ n <= 12
  few : ls.length <= 30
  rng : Rng n ls
  ne : ∀ l, l ∈ ls -> l.src ≠ l.dst
  day : ∀ l, l ∈ ls -> 0 <= l.day /\ l.day <= 40000
  rise : ∀ l, l ∈ ls -> -1000000 <= l.rise /\ l.rise <= 1000000
  err : ∀ l, l ∈ ls -> 0 <= l.err /\ l.err <= 10000
variable {ls : List Line} {n a b c : Int} {h : Int -> Int}
theorem NetOk.ed (hN : NetOk n ls) : ∀ a b c, Ed ls a b c -> -1010000 <= c /\ c <= 1010000 := by
  rintro a b c ⟨l, hl, ⟨_, _, rfl⟩ | ⟨_, _, rfl⟩⟩
  · have := hN.rise l hl; have := hN.err l hl; omega
  · have := hN.rise l hl; have := hN.err l hl; omega
/-- What is known of a row at work. -/
structure BF (ls : List Line) (n a : Int) (D : Int -> Int) (k : Int) : Prop where
  top : ∀ v, 0 <= v -> v < n -> D v <= 1099511627776
  snd : ∀ v, 0 <= v -> v < n -> D v < 1099511627776 -> ∃ vs, Wk ls a (v :: vs) (D v)
  low : ∀ v, 0 <= v -> v < n -> -(1010000 * k) <= D v
  own : D a <= 0
  up : ∀ v, 0 <= v -> v < n -> D v < 1099511627776 -> D v <= 1010000 * k
theorem BF.init (ls : List Line) (n a : Int) : BF ls n a (fun v => if v = a then 0 else 1099511627776) 0 where
  top v _ _ := by first | (split <;> omega) | (dsimp only; split <;> omega)
  snd v _ _ hv := by
    try dsimp only at hv ⊢
    split at hv
    · rename_i e; subst e; rw [if_pos rfl]; exact ⟨[], .one⟩
    · omega
  low v _ _ := by first | (split <;> omega) | (dsimp only; split <;> omega)
  own := by rw [if_pos rfl]; exact Int.le_refl _
  up v _ _ := by first | (split <;> omega) | (dsimp only; split <;> omega)
theorem BF.congr {D D' : Int -> Int} {k : Int} (hB : BF ls n a D k) (ha : 0 <= a /\ a < n) (hN : Rng n ls) (e : ∀ v, 0 <= v -> v < n -> D' v = D v) : BF ls n a D' k where
  top v h0 h1 := by rw [e v h0 h1]; exact hB.top v h0 h1
  snd v h0 h1 := by rw [e v h0 h1]; exact hB.snd v h0 h1
  low v h0 h1 := by rw [e v h0 h1]; exact hB.low v h0 h1
  own := by rw [e a ha.1 ha.2]; exact hB.own
  up v h0 h1 := by rw [e v h0 h1]; exact hB.up v h0 h1
theorem BF.mono {D : Int -> Int} {k k' : Int} (hB : BF ls n a D k) (hk : k <= k') : BF ls n a D k' := ⟨hB.top, hB.snd, fun v h0 h1 => by have := hB.low v h0 h1; omega, hB.own, fun v h0 h1 h2 => by have := hB.up v h0 h1 h2; omega⟩
theorem BF.relax {D : Int -> Int} {k m g e : Int} (hB : BF ls n a D k) (hk : 0 <= k) (he : Ed ls m g e) (hb : -1010000 <= e /\ e <= 1010000) (hm : 0 <= m /\ m < n) (hg : 0 <= g /\ g < n) (h1 : D m < 1099511627776) (h2 : D m + e < D g) : BF ls n a (fun v => if v = g then D m + e else D v) (k + 1) where
  top v h0 h3 := by
    try dsimp only
    split
    · have := hB.top g hg.1 hg.2; omega
    · exact hB.top v h0 h3
  snd v h0 h3 hv := by
    try dsimp only at hv ⊢
    split at hv
    · rename_i e; subst e
      rw [if_pos rfl]
      obtain ⟨vs, w⟩ := hB.snd m hm.1 hm.2 h1
      exact ⟨_, .snoc w he⟩
    · rename_i e; rw [if_neg e]; exact hB.snd v h0 h3 hv
  low v h0 h3 := by
    try dsimp only
    split
    · have := hB.low m hm.1 hm.2; omega
    · have := hB.low v h0 h3; omega
  own := by
    try dsimp only
    split
    · rename_i e; subst e; have := hB.own; omega
    · exact hB.own
  up v h0 h3 hv := by
    try dsimp only at hv ⊢
    split at hv
    · rename_i e; rw [if_pos e]; have := hB.up m hm.1 hm.2 h1; omega
    · rename_i e; rw [if_neg e]; have := hB.up v h0 h3 hv; omega
/-- Walks of so many legs are told. -/
def Cov (ls : List Line) (a : Int) (D : Int -> Int) (r : Nat) : Prop := ∀ vs b c, Wk ls a (b :: vs) c -> vs.length <= r -> D b <= c
theorem Cov.zero {D : Int -> Int} (h : D a <= 0) : Cov ls a D 0 := by
  intro vs b c w hl
  have : vs = [] := List.length_eq_zero_iff.1 (Nat.le_zero.1 hl)
  subst this
  cases w
  exact h
theorem Cov.next {D D' : Int -> Int} {r : Nat} (hN : NetOk n ls) (hr : r <= 1000) (hC : Cov ls a D r) (ha : 0 <= a /\ a < n) (hle : ∀ v, 0 <= v -> v < n -> D' v <= D v) (hE : ∀ m g e, Ed ls m g e -> D m < 1099511627776 -> D' g <= D m + e) : Cov ls a D' (r + 1) := by
  intro vs b c w hl
  cases w with
  | one => exact Int.le_trans (hle _ ha.1 ha.2) (hC [] _ _ .one (Nat.zero_le _))
  | snoc w he =>
    rename_i m ws c0 e
    have h1 := hC _ _ _ w (by simpa using hl)
    have h2 := w.size hN.ed
    simp only [List.length_cons] at h2 hl
    have h3 : D m < 1099511627776 := by omega
    have := hE _ _ _ he h3
    omega
/-- At the end. -/
structure Done (ls : List Line) (n a : Int) (D : Int -> Int) : Prop where
  far : ∀ v, 0 <= v -> v < n -> D v ≠ 1099511627776 -> D v < 1099511627776
  dist : ∀ v, 0 <= v -> v < n -> D v < 1099511627776 -> IsDist ls a v (D v)
  tied : ∀ v, 0 <= v -> v < n -> Tied ls a v -> D v < 1099511627776
theorem BF.done {D : Int -> Int} {k : Int} {r N : Nat} (hN : NetOk n ls) (hF : Feas ls h) (e : (N : Int) = n) (ha : 0 <= a /\ a < n) (hB : BF ls n a D k) (hC : Cov ls a D r) (hr : N <= r + 1) : Done ls n a D := by
  have hle : ∀ vs b c, Wk ls a (b :: vs) c -> D b <= c /\ D b < 1099511627776 := by
    intro vs b c w
    obtain ⟨vs', c', w', h1, h2, h3⟩ := w.few (n := N) hF (by rw [e]; exact hN.rng) (by rw [e]; exact ha)
    have h4 := hC _ _ _ w' (by omega)
    have h5 := w'.size hN.ed
    simp only [List.length_cons] at h5
    have := hN.marks
    exact ⟨by omega, by omega⟩
  refine ⟨fun v h0 h1 h2 => ?_, fun v h0 h1 h2 => ⟨hB.snd v h0 h1 h2, fun vs c w => (hle vs v c w).1⟩, fun v h0 h1 ⟨vs, c, w⟩ => (hle vs v c w).2⟩
  have := hB.top v h0 h1
  omega
/-- Rows that no leg makes less. -/
structure Tight (ls : List Line) (n : Int) (T : Int -> Int -> Int) : Prop where
  leg : ∀ a m g e, 0 <= a -> a < n -> Ed ls m g e -> T a m < 1099511627776 -> T a g <= T a m + e
  zero : ∀ a, 0 <= a -> a < n -> T a a = 0
theorem Tight.feas {T : Int -> Int -> Int} (hN : NetOk n ls) (hS : Tight ls n T) (ht : ∀ a v, 0 <= a -> a < n -> 0 <= v -> v < n -> T a v <= 1099511627776) (f : Int -> Int)
    (hf : ∀ v, 0 <= v -> v < n -> (0 <= f v /\ f v < n) /\ T (f v) v < 1099511627776 /\ ∀ u, 0 <= u -> u < f v -> ¬ T u v < 1099511627776) (hb : ∀ a m g e, 0 <= a -> a < n -> Ed ls m g e -> T a m < 1099511627776 -> T a m + e < 1099511627776) : Feas ls (fun v => T (f v) v) := by
  refine feas_of fun m g e he => ?_
  have hr := he.rng hN.rng
  have hm := hf m hr.1.1 hr.1.2
  have hg := hf g hr.2.1 hr.2.2
  have step : ∀ u v, Ed ls u v e ∨ (∃ e', Ed ls u v e') -> True := fun _ _ _ => trivial
  have same : f m = f g := by
    have key : ∀ u v e', Ed ls u v e' -> f v <= f u := by
      intro u v e' h'
      have hr' := h'.rng hN.rng
      have h1 := hf u hr'.1.1 hr'.1.2
      have h2 := hf v hr'.2.1 hr'.2.2
      have h3 := hS.leg _ _ _ _ h1.1.1 h1.1.2 h' h1.2.1
      have h4 := hb _ _ _ _ h1.1.1 h1.1.2 h' h1.2.1
      rcases Int.lt_or_le (f u) (f v) with hlt | hge
      · exact absurd (by omega) (h2.2.2 (f u) h1.1.1 hlt)
      · exact hge
    obtain ⟨e', hr'⟩ := he.rev
    have := key _ _ _ he
    have := key _ _ _ hr'
    omega
  try dsimp only
  have h3 := hS.leg (f m) m g e hm.1.1 hm.1.2 he hm.2.1
  rw [← same]
  omega
/-! ### Legs, and the last legs of shortest walks -/
def LegOk (ls : List Line) (g : Leg) : Prop := 0 <= g.line /\ g.line < (ls.length : Int)
def lnOf (ls : List Line) (g : Leg) : Line := ls.getD (Int.toNat g.line) default
def sOf (ls : List Line) (g : Leg) : Int := legEnd g.back (lnOf ls g)
def gOf (ls : List Line) (g : Leg) : Int := legEnd (!g.back) (lnOf ls g)
def rOf (ls : List Line) (g : Leg) : Int := bif g.back then (lnOf ls g).err - (lnOf ls g).rise else (lnOf ls g).err + (lnOf ls g).rise
theorem LegOk.mem {g : Leg} (h : LegOk ls g) : lnOf ls g ∈ ls := by
  unfold lnOf
  have hl : Int.toNat g.line < ls.length := by have := h.1; have := h.2; omega
  rw [getD_el ls hl]
  exact List.getElem_mem hl
theorem LegOk.ed {g : Leg} (h : LegOk ls g) : Ed ls (sOf ls g) (gOf ls g) (rOf ls g) := by
  refine ⟨lnOf ls g, h.mem, ?_⟩
  unfold sOf gOf rOf legEnd
  cases g.back with
  | true => exact .inr ⟨rfl, rfl, rfl⟩
  | false => exact .inl ⟨rfl, rfl, rfl⟩
theorem leg_of (he : Ed ls a b c) : ∃ (i : Nat) (k : Bool), i < ls.length /\ sOf ls ⟨i, k⟩ = a /\ gOf ls ⟨i, k⟩ = b /\ rOf ls ⟨i, k⟩ = c := by
  obtain ⟨l, hl, h⟩ := he
  obtain ⟨i, hi, rfl⟩ := mem_getD hl default
  rcases h with ⟨rfl, rfl, rfl⟩ | ⟨rfl, rfl, rfl⟩
  · exact ⟨i, false, hi, rfl, rfl, rfl⟩
  · exact ⟨i, true, hi, rfl, rfl, rfl⟩
/-- The last legs lead back to the first mark. -/
inductive Ch (ls : List Line) (a : Int) (by_ : Int -> Leg) : Int -> Prop
  | root : Ch ls a by_ a
  | up {v : Int} (hv : v ≠ a) (h : Ch ls a by_ (sOf ls (by_ v))) : Ch ls a by_ v
structure ByOk (ls : List Line) (n a : Int) (D : Int -> Int) (by_ : Int -> Leg) : Prop where
  leg : ∀ v, 0 <= v -> v < n -> v ≠ a -> D v < 1099511627776 -> LegOk ls (by_ v) /\ gOf ls (by_ v) = v /\ D (sOf ls (by_ v)) + rOf ls (by_ v) <= D v /\ D (sOf ls (by_ v)) < 1099511627776
  chn : ∀ h, Feas ls h -> ∀ v, 0 <= v -> v < n -> D v < 1099511627776 -> Ch ls a by_ v
theorem ByOk.init (ls : List Line) (n a : Int) (by_ : Int -> Leg) : ByOk ls n a (fun v => if v = a then 0 else 1099511627776) by_ where
  leg v _ _ hv h := by rw [if_neg hv] at h; omega
  chn h _ v _ _ hd := by
    by_cases e : v = a
    · subst e; exact .root
    · rw [if_neg e] at hd; omega
theorem Ch.congr {by_ by' : Int -> Leg} (e : ∀ v, 0 <= v -> v < n -> by' v = by_ v) (hR : ∀ v, 0 <= v -> v < n -> v ≠ a -> Ch ls a by_ v -> 0 <= sOf ls (by_ v) /\ sOf ls (by_ v) < n) {v : Int} (h0 : 0 <= v /\ v < n) (h : Ch ls a by_ v) : Ch ls a by' v := by
  induction h with
  | root => exact .root
  | @up v hv hc ih => exact .up hv (by rw [e v h0.1 h0.2]; exact ih (hR v h0.1 h0.2 hv (.up hv hc)))
theorem ByOk.congr {D D' : Int -> Int} {by_ by' : Int -> Leg} (hN : NetOk n ls) (hB : ByOk ls n a D by_) (e : ∀ v, 0 <= v -> v < n -> D' v = D v) (e' : ∀ v, 0 <= v -> v < n -> by' v = by_ v) : ByOk ls n a D' by' where
  leg v h0 h1 hv hd := by
    rw [e v h0 h1] at hd ⊢
    rw [e' v h0 h1]
    obtain ⟨h2, h3, h4, h5⟩ := hB.leg v h0 h1 hv hd
    have hr := (h2.ed.rng hN.rng).1
    rw [e _ hr.1 hr.2]
    exact ⟨h2, h3, h4, h5⟩
  chn h hF v h0 h1 hd := by
    rw [e v h0 h1] at hd
    have hc := hB.chn h hF v h0 h1 hd
    have key : ∀ v, Ch ls a by_ v -> 0 <= v -> v < n -> D v < 1099511627776 -> Ch ls a by' v := by
      intro v hc
      induction hc with
      | root => exact fun _ _ _ => .root
      | @up v hv hc ih =>
        intro h0 h1 hd
        obtain ⟨h2, h3, h4, h5⟩ := hB.leg v h0 h1 hv hd
        have hr := (h2.ed.rng hN.rng).1
        exact .up hv (by rw [e' v h0 h1]; exact ih hr.1 hr.2 h5)
    exact key v hc h0 h1 hd
theorem ByOk.relax {D : Int -> Int} {by_ : Int -> Leg} {k : Int} {x : Leg} (hN : NetOk n ls) (hB : ByOk ls n a D by_) (hD : BF ls n a D k) (hx : LegOk ls x) (h1 : D (sOf ls x) < 1099511627776) (h2 : D (sOf ls x) + rOf ls x < D (gOf ls x)) :
    ByOk ls n a (fun v => if v = gOf ls x then D (sOf ls x) + rOf ls x else D v) (fun v => if v = gOf ls x then x else by_ v) := by
  have he := hx.ed
  have hr := he.rng hN.rng
  have hne : sOf ls x ≠ gOf ls x := by
    unfold sOf gOf legEnd
    have := hN.ne _ hx.mem
    cases x.back with
    | true => exact fun e => this e.symm
    | false => exact this
  have hle : ∀ v, (if v = gOf ls x then D (sOf ls x) + rOf ls x else D v) <= D v := fun v => by
    split
    · rename_i e; rw [e]; omega
    · exact Int.le_refl _
  refine ⟨fun v h0 h3 hv hd => ?_, fun h hF v h0 h3 hd => ?_⟩
  · by_cases e : v = gOf ls x
    · subst e
      simp only [if_true] at hd ⊢
      rw [if_neg hne]
      exact ⟨hx, trivial, Int.le_refl _, h1⟩
    · simp only [if_neg e] at hd ⊢
      obtain ⟨g1, g2, g3, g4⟩ := hB.leg v h0 h3 hv hd
      have := hle (sOf ls (by_ v))
      exact ⟨g1, g2, by omega, by omega⟩
  · -- the last legs lead to the first mark without the one that is turned
    have hga : gOf ls x ≠ a := by
      intro e
      obtain ⟨vs, w⟩ := hD.snd _ hr.1.1 hr.1.2 h1
      have q1 := (Wk.snoc w he).le hF
      have q2 := hD.own
      rw [e] at q1 h2
      omega
    have key : ∀ u, Ch ls a by_ u -> 0 <= u -> u < n -> D u < 1099511627776 -> ∀ vs c, Wk ls u (sOf ls x :: vs) c -> D u + c <= D (sOf ls x) -> Ch ls a (fun v => if v = gOf ls x then x else by_ v) u := by
      intro u hc
      induction hc with
      | root => exact fun _ _ _ _ _ _ _ => .root
      | @up u hu hc ih =>
        intro h0 h3 hd vs c w hle
        obtain ⟨g1, g2, g3, g4⟩ := hB.leg u h0 h3 hu hd
        have hr' := (g1.ed.rng hN.rng).1
        have hug : u ≠ gOf ls x := by
          intro e
          have q1 := (Wk.snoc w he).le hF
          rw [e] at q1 hle
          omega
        refine .up hu ?_
        rw [if_neg hug]
        have e1 := g1.ed
        rw [g2] at e1
        obtain ⟨us, hw⟩ := (Wk.edge e1).app w
        exact ih hr'.1 hr'.2 g4 us _ hw (by omega)
    have hm : Ch ls a (fun v => if v = gOf ls x then x else by_ v) (sOf ls x) := key _ (hB.chn h hF _ hr.1.1 hr.1.2 h1) hr.1.1 hr.1.2 h1 [] 0 .one (by omega)
    have hg : Ch ls a (fun v => if v = gOf ls x then x else by_ v) (gOf ls x) := .up hga (by rw [if_pos rfl]; exact hm)
    have all : ∀ u, Ch ls a by_ u -> Ch ls a (fun v => if v = gOf ls x then x else by_ v) u := by
      intro u hc
      induction hc with
      | root => exact .root
      | @up u hu hc ih =>
        by_cases e : u = gOf ls x
        · rw [e]; exact hg
        · exact .up hu (by rw [if_neg e]; exact ih)
    by_cases e : v = gOf ls x
    · rw [e]; exact hg
    · simp only [if_neg e] at hd
      exact all v (hB.chn h hF v h0 h3 hd)
end Go.Nm
namespace Go.Nm
def rw_ (can : List Int) (a v : Int) : Int := can.getD (Int.toNat a * 13 + Int.toNat v) 0
def rb_ (by_ : List Leg) (a v : Int) : Leg := by_.getD (Int.toNat a * 13 + Int.toNat v) default
variable {ls : List Line} {n a : Int}
structure FI (ls : List Line) (n a : Int) (can0 : List Int) (by0 : List Leg) (k : Int) (can : List Int) (by_ : List Leg) : Prop where
  lc : can.length = 169
  lb : by_.length = 169
  oth : ∀ i, (i < Int.toNat a * 13 ∨ Int.toNat a * 13 + 13 <= i) -> can.getD i 0 = can0.getD i 0 /\ by_.getD i default = by0.getD i default
  bf : BF ls n a (rw_ can a) k
  bo : ByOk ls n a (rw_ can a) (rb_ by_ a)
theorem FI.mono {can0 can : List Int} {by0 by_ : List Leg} {k k' : Int} (h : FI ls n a can0 by0 k can by_) (hk : k <= k') : FI ls n a can0 by0 k' can by_ := ⟨h.lc, h.lb, h.oth, h.bf.mono hk, h.bo⟩
theorem rw_set {can : List Int} (hl : can.length = 169) {a g : Int} (ha : 0 <= a /\ a < 12) (hg : 0 <= g /\ g < 13) (x : Int) (v : Int) (h0 : 0 <= v) (h1 : v < 13) : rw_ (can.set (Int.toNat a * 13 + Int.toNat g) x) a v = if v = g then x else rw_ can a v := by
  unfold rw_
  rw [gset _ _ _ _ _ (by omega)]
  by_cases e : v = g
  · rw [if_pos e, if_pos (by rw [e])]
  · rw [if_neg e, if_neg (by omega)]
theorem rb_set {by_ : List Leg} (hl : by_.length = 169) {a g : Int} (ha : 0 <= a /\ a < 12) (hg : 0 <= g /\ g < 13) (x : Leg) (v : Int) (h0 : 0 <= v) (h1 : v < 13) : rb_ (by_.set (Int.toNat a * 13 + Int.toNat g) x) a v = if v = g then x else rb_ by_ a v := by
  unfold rb_
  rw [gset _ _ _ _ _ (by omega)]
  by_cases e : v = g
  · rw [if_pos e, if_pos (by rw [e])]
  · rw [if_neg e, if_neg (by omega)]
theorem FI.relax {can0 can : List Int} {by0 by_ : List Leg} {k : Int} {x : Leg} (hN : NetOk n ls) (ha : 0 <= a /\ a < n) (h : FI ls n a can0 by0 k can by_) (hk : 0 <= k) (hx : LegOk ls x) (h1 : rw_ can a (sOf ls x) < 1099511627776) (h2 : rw_ can a (sOf ls x) + rOf ls x < rw_ can a (gOf ls x)) :
    FI ls n a can0 by0 (k + 1) (can.set (Int.toNat a * 13 + Int.toNat (gOf ls x)) (rw_ can a (sOf ls x) + rOf ls x)) (by_.set (Int.toNat a * 13 + Int.toNat (gOf ls x)) x) := by
  have hm := hN.marks
  have hr := hx.ed.rng hN.rng
  have e1 : ∀ v, 0 <= v -> v < n -> rw_ (can.set (Int.toNat a * 13 + Int.toNat (gOf ls x)) (rw_ can a (sOf ls x) + rOf ls x)) a v = if v = gOf ls x then rw_ can a (sOf ls x) + rOf ls x else rw_ can a v := fun v h0 h3 => rw_set h.lc (by omega) (by omega) _ v h0 (by omega)
  have e2 : ∀ v, 0 <= v -> v < n -> rb_ (by_.set (Int.toNat a * 13 + Int.toNat (gOf ls x)) x) a v = if v = gOf ls x then x else rb_ by_ a v := fun v h0 h3 => rb_set h.lb (by omega) (by omega) _ v h0 (by omega)
  refine ⟨by rw [List.length_set]; exact h.lc, by rw [List.length_set]; exact h.lb, fun i hi => ?_, ?_, ?_⟩
  · rw [gset _ _ _ _ _ (by rw [h.lc]; omega), gset _ _ _ _ _ (by rw [h.lb]; omega), if_neg (by omega), if_neg (by omega)]
    exact h.oth i hi
  · exact (h.bf.relax hk hx.ed (hN.ed _ _ _ hx.ed) hr.1 hr.2 h1 h2).congr ha hN.rng e1
  · exact (h.bo.relax hN h.bf hx h1 h2).congr hN e1 e2
/-- These legs make nothing less than they did when the round began. -/
def Rlx (ls : List Line) (D0 D : Int -> Int) (pr : Nat -> Bool -> Prop) : Prop := ∀ (i : Nat) (k : Bool), i < ls.length -> pr i k -> D0 (sOf ls ⟨i, k⟩) < 1099511627776 -> D (gOf ls ⟨i, k⟩) <= D0 (sOf ls ⟨i, k⟩) + rOf ls ⟨i, k⟩
theorem Rlx.le {D0 D D' : Int -> Int} {pr pr' : Nat -> Bool -> Prop} (hR : Rng n ls) (h : Rlx ls D0 D pr) (hle : ∀ v, 0 <= v -> v < n -> D' v <= D v) (hp : ∀ i k, i < ls.length -> pr' i k -> pr i k) : Rlx ls D0 D' pr' := fun i k hi hpr hd => by
  have hx : LegOk ls ⟨i, k⟩ := ⟨by show (0 : Int) <= (i : Int); omega, by show (i : Int) < _; omega⟩
  have hr := (hx.ed.rng hR).2
  have := h i k hi (hp i k hi hpr) hd
  have := hle _ hr.1 hr.2
  omega
theorem Rlx.all {D0 D : Int -> Int} (h : Rlx ls D0 D (fun _ _ => True)) : ∀ m g e, Ed ls m g e -> D0 m < 1099511627776 -> D g <= D0 m + e := by
  intro m g e he hd
  obtain ⟨i, k, hi, rfl, rfl, rfl⟩ := leg_of he
  exact h i k hi trivial hd
end Go.Nm
namespace Go.Nm
variable {ls : List Line} {n a : Int}
theorem Cov.congr {D D' : Int -> Int} {r : Nat} (hR : Rng n ls) (ha : 0 <= a /\ a < n) (h : Cov ls a D r) (e : ∀ v, 0 <= v -> v < n -> D' v = D v) : Cov ls a D' r := fun vs b c w hl => by
  have := w.rng hR ha b (by simp)
  rw [e b this.1 this.2]
  exact h vs b c w hl
def Agr (ls : List Line) : Prop := ∃ h, Feas ls h
structure Row (ls : List Line) (n a : Int) (D : Int -> Int) (by_ : Int -> Leg) : Prop where
  bf : BF ls n a D 8640
  cov : Cov ls a D (Int.toNat n)
  bo : ByOk ls n a D by_
theorem Row.congr {D D' : Int -> Int} {b b' : Int -> Leg} (hN : NetOk n ls) (ha : 0 <= a /\ a < n) (h : Row ls n a D b) (e : ∀ v, 0 <= v -> v < n -> D' v = D v) (e' : ∀ v, 0 <= v -> v < n -> b' v = b v) : Row ls n a D' b' :=
  ⟨h.bf.congr ha hN.rng e, h.cov.congr hN.rng ha e, h.bo.congr hN e e'⟩
structure Wkd (ls : List Line) (n : Int) (can : List Int) (by_ : List Leg) : Prop where
  lc : can.length = 169
  lb : by_.length = 169
  row : ∀ a, 0 <= a -> a < n -> Row ls n a (rw_ can a) (rb_ by_ a)
theorem Wkd.done {can : List Int} {by_ : List Leg} (hN : NetOk n ls) (hW : Wkd ls n can by_) (hA : Agr ls) (ha : 0 <= a /\ a < n) : Done ls n a (rw_ can a) := by
  obtain ⟨h, hF⟩ := hA
  have hr := hW.row a ha.1 ha.2
  have hm := hN.marks
  exact hr.bf.done (N := Int.toNat n) hN hF (by omega) ha hr.cov (by omega)
def Rx (ls : List Line) (can : List Int) (a : Int) (x : Leg) : Prop := rw_ can a (sOf ls x) < 1099511627776 /\ rw_ can a (sOf ls x) + rOf ls x < rw_ can a (gOf ls x)
theorem Wkd.agr_no {can : List Int} {by_ : List Leg} (hN : NetOk n ls) (hW : Wkd ls n can by_) (hA : Agr ls) (ha : 0 <= a /\ a < n) {x : Leg} (hx : LegOk ls x) : ¬ Rx ls can a x := by
  rintro ⟨h1, h2⟩
  have hD := hW.done hN hA ha
  have hr := hx.ed.rng hN.rng
  have d1 := hD.dist _ hr.1.1 hr.1.2 h1
  have ht : Tied ls a (gOf ls x) := d1.tied.trans (.ed hx.ed)
  have d2 := hD.dist _ hr.2.1 hr.2.2 (hD.tied _ hr.2.1 hr.2.2 ht)
  have := d1.step hx.ed d2
  omega
theorem Wkd.agr_zero {can : List Int} {by_ : List Leg} (hN : NetOk n ls) (hW : Wkd ls n can by_) (hA : Agr ls) (ha : 0 <= a /\ a < n) : rw_ can a a = 0 := by
  have hD := hW.done hN hA ha
  have h1 := (hW.row a ha.1 ha.2).bf.own
  obtain ⟨h, hF⟩ := hA
  exact (hD.dist a ha.1 ha.2 (by omega)).uniq (.self hF)
theorem Wkd.agr_of {can : List Int} {by_ : List Leg} (hN : NetOk n ls) (hW : Wkd ls n can by_) (h1 : ∀ a, 0 <= a -> a < n -> ∀ x, LegOk ls x -> ¬ Rx ls can a x) (h2 : ∀ a, 0 <= a -> a < n -> ¬ rw_ can a a < 0) :
    ∃ f : Int -> Int, (∀ v, 0 <= v -> v < n -> (0 <= f v /\ f v < n) /\ rw_ can (f v) v < 1099511627776 /\ ∀ u, 0 <= u -> u < f v -> ¬ rw_ can u v < 1099511627776) /\ Feas ls (fun v => rw_ can (f v) v) := by
  have hS : Tight ls n (rw_ can) := by
    refine ⟨fun a m g e h0 h3 he hd => ?_, fun a h0 h3 => ?_⟩
    · obtain ⟨i, k, hi, rfl, rfl, rfl⟩ := leg_of he
      have := h1 a h0 h3 ⟨i, k⟩ ⟨by show (0 : Int) <= (i : Int); omega, by show (i : Int) < _; omega⟩
      unfold Rx at this
      omega
    · have := h2 a h0 h3
      have := (hW.row a h0 h3).bf.own
      omega
  have hex : ∀ v, 0 <= v -> v < n -> ∃ u : Nat, ((u : Int) < n /\ rw_ can u v < 1099511627776) /\ ∀ k : Nat, ((k : Int) < n /\ rw_ can k v < 1099511627776) -> u <= k := by
    intro v h0 h3
    refine least_nat ⟨v.toNat, by omega, ?_⟩
    rw [Int.toNat_of_nonneg h0, hS.zero v h0 h3]
    omega
  refine ⟨fun v => if h : 0 <= v /\ v < n then (((hex v h.1 h.2).choose : Nat) : Int) else 0, ?_, ?_⟩
  · intro v h0 h3
    dsimp only
    rw [dif_pos ⟨h0, h3⟩]
    obtain ⟨⟨g1, g2⟩, g3⟩ := (hex v h0 h3).choose_spec
    refine ⟨⟨by omega, g1⟩, g2, fun u hu0 hu1 hu => ?_⟩
    have := g3 u.toNat (by rw [Int.toNat_of_nonneg hu0]; exact ⟨by omega, hu⟩)
    omega
  · refine hS.feas hN (fun a v h0 h3 h4 h5 => (hW.row a h0 h3).bf.top v h4 h5) _ ?_ (fun a m g e h0 h3 he hd => ?_)
    · intro v h0 h3
      try dsimp only
      rw [dif_pos ⟨h0, h3⟩]
      obtain ⟨⟨g1, g2⟩, g3⟩ := (hex v h0 h3).choose_spec
      refine ⟨⟨by omega, g1⟩, g2, fun u hu0 hu1 hu => ?_⟩
      have := g3 u.toNat (by rw [Int.toNat_of_nonneg hu0]; exact ⟨by omega, hu⟩)
      omega
    · have hr := he.rng hN.rng
      have := (hW.row a h0 h3).bf.up m hr.1.1 hr.1.2 hd
      have := hN.ed _ _ _ he
      omega
end Go.Nm
namespace Go.Nm
variable {ls ks : List Line} {a b d : Int}
theorem Tied.edge {u v c : Int} (he : Ed ls u v c) : Tied ls a u ↔ Tied ls a v := ⟨fun t => t.trans (.ed he), fun t => by obtain ⟨c', hr⟩ := he.rev; exact t.trans (.ed hr)⟩
theorem dist_cert (hA : Agr ls) (hD : IsDist ls a b d) : ∃ h, Feas ls h /\ h b - h a = d := by
  obtain ⟨h0, hF⟩ := hA
  haveI := fun v => Classical.propDecidable (∃ d, IsDist ls a v d)
  refine ⟨fun v => if t : ∃ d, IsDist ls a v d then t.choose else h0 v, feas_of fun u v e he => ?_, ?_⟩
  · by_cases t : Tied ls a u
    · have t1 := dist_ex hF t
      have t2 := dist_ex hF ((Tied.edge he).1 t)
      try dsimp only
      rw [dif_pos t1, dif_pos t2]
      have := t1.choose_spec.step he t2.choose_spec
      omega
    · have t1 : ¬ ∃ d, IsDist ls a u d := fun ⟨d, h⟩ => t h.tied
      have t2 : ¬ ∃ d, IsDist ls a v d := fun ⟨d, h⟩ => t ((Tied.edge he).2 h.tied)
      try dsimp only
      rw [dif_neg t1, dif_neg t2]
      exact hF.ed he
  · have t1 : ∃ d, IsDist ls a b d := ⟨d, hD⟩
    have t2 : ∃ d, IsDist ls a a d := ⟨0, .self hF⟩
    try dsimp only
    rw [dif_pos t1, dif_pos t2, t1.choose_spec.uniq hD, t2.choose_spec.uniq (.self hF)]
    omega
theorem Wk.map {f : Int -> Int} (hE : ∀ a b c, Ed ks a b c -> Ed ls (f a) (f b) c) {vs : List Int} {c : Int} (w : Wk ks a vs c) : Wk ls (f a) (vs.map f) c := by
  induction w with
  | one => exact .one
  | snoc _ he ih => exact .snoc ih (hE _ _ _ he)
/-! ### Nets that are joined at one mark -/
section
variable {N M there joint : Int} (hN : Rng N ls) (hM : Rng M ks) (hj : 0 <= joint /\ joint < N) (ht : 0 <= there /\ there < M)
include hN hM hj ht
end
end Go.Nm
namespace Go.Nm
variable {ls : List Line} {n f : Int}
/-- So many last legs back. -/
def bk (ls : List Line) (B : Int -> Leg) : Nat -> Int -> Int
  | 0, v => v
  | k + 1, v => bk ls B k (sOf ls (B v))
def bs (ls : List Line) (B : Int -> Leg) : Nat -> Int -> Int
  | 0, _ => 0
  | k + 1, v => rOf ls (B v) + bs ls B k (sOf ls (B v))
theorem bk_add (B : Int -> Leg) : ∀ (i k : Nat) (v : Int), bk ls B (i + k) v = bk ls B k (bk ls B i v)
  | 0, k, v => by rw [Nat.zero_add]; rfl
  | i + 1, k, v => by rw [show i + 1 + k = (i + k) + 1 by omega]; exact bk_add B i k _
theorem bs_add (B : Int -> Leg) : ∀ (i k : Nat) (v : Int), bs ls B (i + k) v = bs ls B i v + bs ls B k (bk ls B i v)
  | 0, k, v => by rw [Nat.zero_add]; show _ = 0 + bs ls B k v; omega
  | i + 1, k, v => by
    rw [show i + 1 + k = (i + k) + 1 by omega]
    show rOf ls (B v) + bs ls B (i + k) (sOf ls (B v)) = (rOf ls (B v) + bs ls B i (sOf ls (B v))) + bs ls B k (bk ls B i (sOf ls (B v)))
    rw [bs_add B i k]
    omega
theorem bk_succ (B : Int -> Leg) (i : Nat) (v : Int) : bk ls B (i + 1) v = sOf ls (B (bk ls B i v)) := by rw [bk_add]; rfl
/-- The state of the rounds: q tells in which round a mark sank last. -/
structure Sk (ls : List Line) (n f : Int) (R : Int -> Int) (B : Int -> Leg) (H : Int -> Prop) (q : Int -> Nat) : Prop where
  root : H f
  leg : ∀ v, 0 < q v -> H v /\ LegOk ls (B v) /\ gOf ls (B v) = v /\ H (sOf ls (B v)) /\ R (sOf ls (B v)) + rOf ls (B v) <= R v /\ q v <= q (sOf ls (B v)) + 1
  un : ∀ v, H v -> q v = 0 -> v = f
  ring : ∀ (k : Nat) (v : Int), 0 < k -> (∀ i, i < k -> 0 < q (bk ls B i v)) -> bk ls B k v = v -> bs ls B k v < 0
theorem Sk.path {R : Int -> Int} {B : Int -> Leg} {H : Int -> Prop} {q : Int -> Nat} (h : Sk ls n f R B H q) : ∀ (k : Nat) (v : Int), (∀ i, i < k -> 0 < q (bk ls B i v)) -> R (bk ls B k v) + bs ls B k v <= R v
  | 0, v, _ => by show R v + 0 <= R v; omega
  | k + 1, v, hq => by
    have h1 := (h.leg v (hq 0 (by omega))).2.2.2.2.1
    have h2 := h.path k (sOf ls (B v)) fun i hi => hq (i + 1) (by omega)
    show R (bk ls B k (sOf ls (B v))) + (rOf ls (B v) + bs ls B k (sOf ls (B v))) <= R v
    omega
section
variable {R : Int -> Int} {B : Int -> Leg} {H : Int -> Prop} {q : Int -> Nat} {g : Leg} {r : Nat}
def upF {α : Type} (F : Int -> α) (v : Int) (x : α) (w : Int) : α := if w = v then x else F w
theorem upF_at {α : Type} (F : Int -> α) (v : Int) (x : α) : upF F v x v = x := if_pos rfl
theorem upF_no {α : Type} (F : Int -> α) {v w : Int} (x : α) (h : w ≠ v) : upF F v x w = F w := if_neg h
/-- As long as the changed mark is not met the way back is the old one. -/
theorem bk_up (v : Int) : ∀ (k : Nat) (w : Int), (∀ i, i < k -> bk ls (upF B v g) i w ≠ v) -> bk ls (upF B v g) k w = bk ls B k w /\ bs ls (upF B v g) k w = bs ls B k w
  | 0, _, _ => ⟨rfl, rfl⟩
  | k + 1, w, h => by
    have e : upF B v g w = B w := upF_no _ _ (h 0 (by omega))
    obtain ⟨h1, h2⟩ := bk_up v k (sOf ls (B w)) fun i hi => by
      have := h (i + 1) (by omega)
      show bk ls (upF B v g) i (sOf ls (B w)) ≠ v
      rw [← e]
      exact this
    constructor
    · show bk ls (upF B v g) k (sOf ls (upF B v g w)) = bk ls B k (sOf ls (B w))
      rw [e]; exact h1
    · show rOf ls (upF B v g w) + bs ls (upF B v g) k (sOf ls (upF B v g w)) = rOf ls (B w) + bs ls B k (sOf ls (B w))
      rw [e, h2]
theorem Sk.sink (h : Sk ls n f R B H q) (hg : LegOk ls g) (hne : sOf ls g ≠ gOf ls g) (hm : H (sOf ls g)) (hlt : ¬ H (gOf ls g) ∨ R (sOf ls g) + rOf ls g < R (gOf ls g)) (hr : 1 <= r) (hq : r <= q (sOf ls g) + 1) (hmax : ∀ v, q v <= r) :
    Sk ls n f (upF R (gOf ls g) (R (sOf ls g) + rOf ls g)) (upF B (gOf ls g) g) (fun w => H w ∨ w = gOf ls g) (upF q (gOf ls g) r) := by
  generalize hv : gOf ls g = v at *
  generalize hs : sOf ls g = m at *
  have q' : ∀ w, q w <= upF q v r w := fun w => by
    unfold upF
    split
    · rename_i e; rw [e]; exact hmax v
    · exact Nat.le_refl _
  have qpos : ∀ w, w ≠ v -> 0 < upF q v r w -> 0 < q w := fun w hw h => by rwa [upF_no _ _ hw] at h
  have Rle : H v -> ∀ w, upF R v (R m + rOf ls g) w <= R w := fun hv w => by
    unfold upF
    split
    · rename_i e
      rcases hlt with h | h
      · exact absurd hv h
      · rw [e]; omega
    · exact Int.le_refl _
  refine ⟨.inl h.root, fun w hw => ?_, fun w hw h0 => ?_, ?_⟩
  · by_cases e : w = v
    · subst e
      rw [upF_at, upF_at, upF_at, hs, upF_no _ _ hne, upF_no _ _ hne]
      exact ⟨.inr rfl, hg, hv, .inl hm, Int.le_refl _, hq⟩
    · obtain ⟨a1, a2, a3, a4, a5, a6⟩ := h.leg w (qpos w e hw)
      rw [upF_no _ _ e, upF_no _ _ e, upF_no _ _ e]
      refine ⟨.inl a1, a2, a3, .inl a4, ?_, Nat.le_trans a6 (Nat.succ_le_succ (q' _))⟩
      by_cases e2 : sOf ls (B w) = v
      · have := Rle (e2 ▸ a4) (sOf ls (B w))
        omega
      · rw [upF_no _ _ e2]; exact a5
  · by_cases e : w = v
    · subst e; rw [upF_at] at h0; omega
    · rw [upF_no _ _ e] at h0
      rcases hw with hw | hw
      · exact h.un w hw h0
      · exact absurd hw e
  · -- rings through the mark that sinks
    have thru : ∀ (k : Nat), 0 < k -> (∀ i, i < k -> 0 < upF q v r (bk ls (upF B v g) i v)) -> bk ls (upF B v g) k v = v -> bs ls (upF B v g) k v < 0 := by
      intro k
      induction k using Nat.strongRecOn with
      | _ k ih =>
        intro hk hqs hb
        have first : ∃ j, (0 < j /\ bk ls (upF B v g) j v = v) /\ ∀ i, (0 < i /\ bk ls (upF B v g) i v = v) -> j <= i := least_nat ⟨k, hk, hb⟩
        obtain ⟨j, ⟨j0, j1⟩, j2⟩ := first
        have jk := j2 k ⟨hk, hb⟩
        obtain ⟨i, rfl⟩ : ∃ i, j = i + 1 := ⟨j - 1, by omega⟩
        have e0 : sOf ls (upF B v g v) = m := by rw [upF_at, hs]
        have e1 : bk ls (upF B v g) (i + 1) v = bk ls (upF B v g) i m := by show bk ls (upF B v g) i (sOf ls (upF B v g v)) = _; rw [e0]
        have e2 : bs ls (upF B v g) (i + 1) v = rOf ls g + bs ls (upF B v g) i m := by show rOf ls (upF B v g v) + bs ls (upF B v g) i (sOf ls (upF B v g v)) = _; rw [e0, upF_at]
        have nv : ∀ x, x < i -> bk ls (upF B v g) x m ≠ v := fun x hx hx2 => by
          have : bk ls (upF B v g) (x + 1) v = v := by show bk ls (upF B v g) x (sOf ls (upF B v g v)) = v; rw [e0]; exact hx2
          have := j2 (x + 1) ⟨by omega, this⟩
          omega
        obtain ⟨b1, b2⟩ := bk_up (ls := ls) (B := B) (g := g) v i m nv
        have old : ∀ x, x < i -> 0 < q (bk ls B x m) := fun x hx => by
          obtain ⟨c1, _⟩ := bk_up (ls := ls) (B := B) (g := g) v x m fun y hy => nv y (by omega)
          have hp := hqs (x + 1) (by omega)
          have e3 : bk ls (upF B v g) (x + 1) v = bk ls (upF B v g) x m := by show bk ls (upF B v g) x (sOf ls (upF B v g v)) = _; rw [e0]
          rw [e3, upF_no _ _ (nv x hx), c1] at hp
          exact hp
        have back : bk ls B i m = v := by rw [← b1, ← e1]; exact j1
        have hHv : H v := by
          cases i with
          | zero => exact absurd back hne
          | succ i =>
            rw [bk_succ] at back
            rw [← back]
            exact (h.leg _ (old i (by omega))).2.2.2.1
        have hlt' : R m + rOf ls g < R v := by
          rcases hlt with h | h
          · exact absurd hHv h
          · exact h
        have hp := h.path i m old
        rw [back] at hp
        have neg : bs ls (upF B v g) (i + 1) v < 0 := by rw [e2, b2]; omega
        by_cases ek : i + 1 = k
        · rw [← ek]; exact neg
        · obtain ⟨d, rfl⟩ : ∃ d, k = (i + 1) + d := ⟨k - (i + 1), by omega⟩
          rw [bs_add, j1]
          rw [bk_add, j1] at hb
          have := ih d (by omega) (by omega) (fun x hx => by
            have := hqs ((i + 1) + x) (by omega)
            rwa [bk_add, j1] at this) hb
          omega
    intro k w hk hqs hb
    by_cases c : ∃ i, i < k /\ bk ls (upF B v g) i w = v
    · obtain ⟨i, hi, e⟩ := c
      obtain ⟨d, rfl⟩ : ∃ d, k = i + d := ⟨k - i, by omega⟩
      rw [bk_add, e] at hb
      have e1 : bs ls (upF B v g) (i + d) w = bs ls (upF B v g) (d + i) v := by
        rw [bs_add, e, bs_add, hb]
        omega
      rw [e1]
      refine thru (d + i) (by omega) (fun x hx => ?_) ?_
      · by_cases hx2 : x < d
        · have := hqs (i + x) (by omega)
          rwa [bk_add, e] at this
        · obtain ⟨y, rfl⟩ : ∃ y, x = d + y := ⟨x - d, by omega⟩
          rw [bk_add, hb]
          exact hqs y (by omega)
      · rw [bk_add, hb, e]
    · have nv : ∀ i, i < k -> bk ls (upF B v g) i w ≠ v := fun i hi e => c ⟨i, hi, e⟩
      obtain ⟨b1, b2⟩ := bk_up (ls := ls) (B := B) (g := g) v k w nv
      rw [b2]
      rw [b1] at hb
      refine h.ring k w hk (fun i hi => ?_) hb
      obtain ⟨c1, _⟩ := bk_up (ls := ls) (B := B) (g := g) v i w fun y hy => nv y (by omega)
      have := hqs i hi
      rw [upF_no _ _ (nv i hi), c1] at this
      exact this
end
end Go.Nm
namespace Go.Nm
variable {ls : List Line} {n f : Int}
/-- A leg that lets nothing sink. -/
def Fin (ls : List Line) (R : Int -> Int) (H : Int -> Prop) (g : Leg) : Prop := H (gOf ls g) /\ R (gOf ls g) <= R (sOf ls g) + rOf ls g
/-- Round r, in which the marks before c were gone through. -/
structure Rk (ls : List Line) (n f : Int) (r c : Nat) (K : Int) (R : Int -> Int) (B : Int -> Leg) (H : Int -> Prop) (q : Int -> Nat) (at_ : Int) : Prop where
  sk : Sk ls n f R B H q
  dom : ∀ v, H v -> 0 <= v /\ v < n
  qd : ∀ v, 0 < q v -> H v
  qm : ∀ v, q v <= r
  old : ∀ m, H m -> q m + 1 < r -> ∀ g, LegOk ls g -> sOf ls g = m -> Fin ls R H g
  now : ∀ m, H m -> m < c -> q m < r -> ∀ g, LegOk ls g -> sOf ls g = m -> Fin ls R H g
  no : at_ = -1 -> ∀ v, q v < r
  yes : at_ ≠ -1 -> q at_ = r
  lo : ∀ v, -K <= R v /\ R v <= K
theorem Fin.up {R : Int -> Int} {H : Int -> Prop} {g g' : Leg} (h : Fin ls R H g') (hlt : ¬ H (gOf ls g) ∨ R (sOf ls g) + rOf ls g < R (gOf ls g)) (hm : sOf ls g' ≠ gOf ls g) :
    Fin ls (upF R (gOf ls g) (R (sOf ls g) + rOf ls g)) (fun w => H w ∨ w = gOf ls g) g' := by
  refine ⟨.inl h.1, ?_⟩
  rw [upF_no R _ hm]
  by_cases e : gOf ls g' = gOf ls g
  · rw [e, upF_at]
    have h1 := h.2
    have h2 := h.1
    rw [e] at h1 h2
    rcases hlt with h3 | h3
    · exact absurd h2 h3
    · omega
  · rw [upF_no R _ e]
    exact h.2
theorem Rk.sink {r c : Nat} {K : Int} {R : Int -> Int} {B : Int -> Leg} {H : Int -> Prop} {q : Int -> Nat} {at_ : Int} (hN : NetOk n ls) (h : Rk ls n f r c K R B H q at_) {g : Leg} (hg : LegOk ls g) (hr : 1 <= r) (hm : H (sOf ls g)) (hlt : ¬ H (gOf ls g) ∨ R (sOf ls g) + rOf ls g < R (gOf ls g)) :
    Rk ls n f r c (K + 1010000) (upF R (gOf ls g) (R (sOf ls g) + rOf ls g)) (upF B (gOf ls g) g) (fun w => H w ∨ w = gOf ls g) (upF q (gOf ls g) r) (gOf ls g) := by
  have hrg := hg.ed.rng hN.rng
  have hne : sOf ls g ≠ gOf ls g := fun e => by
    have h1 := hN.ne _ hg.mem
    unfold sOf gOf legEnd at e
    cases hb : g.back <;> rw [hb] at e <;> simp at e <;> omega
  have hq : r <= q (sOf ls g) + 1 := Classical.byContradiction fun hc => by
    have := h.old _ hm (by omega) g hg rfl
    rcases hlt with h1 | h1
    · exact h1 this.1
    · have := this.2; omega
  have hb := hN.ed _ _ _ hg.ed
  have hv0 : H (gOf ls g) ∨ q (gOf ls g) = 0 := by
    rcases Nat.eq_zero_or_pos (q (gOf ls g)) with z | z
    · exact .inr z
    · exact .inl (h.qd _ z)
  refine ⟨h.sk.sink hg hne hm hlt hr hq h.qm, fun w hw => ?_, fun w hw => ?_, fun w => ?_, fun m hH hqm g' hg' hs => ?_, fun m hH hc hqm g' hg' hs => ?_, fun e => ?_, fun _ => upF_at _ _ _, fun w => ?_⟩
  · rcases hw with hw | rfl
    · exact h.dom w hw
    · exact hrg.2
  · by_cases e : w = gOf ls g
    · exact .inr e
    · rw [upF_no _ _ e] at hw; exact .inl (h.qd w hw)
  · by_cases e : w = gOf ls g
    · rw [e, upF_at]; exact Nat.le_refl _
    · rw [upF_no _ _ e]; exact h.qm w
  · by_cases e : m = gOf ls g
    · rw [e, upF_at] at hqm; omega
    · rw [upF_no _ _ e] at hqm
      rcases hH with hH | hH
      · exact (h.old m hH hqm g' hg' hs).up hlt (by rw [hs]; exact e)
      · exact absurd hH e
  · by_cases e : m = gOf ls g
    · rw [e, upF_at] at hqm; omega
    · rw [upF_no _ _ e] at hqm
      rcases hH with hH | hH
      · exact (h.now m hH hc hqm g' hg' hs).up hlt (by rw [hs]; exact e)
      · exact absurd hH e
  · omega
  · have h1 := h.lo (sOf ls g)
    have h2 := h.lo w
    by_cases e : w = gOf ls g
    · rw [e, upF_at]; omega
    · rw [upF_no _ _ e]; omega
theorem Rk.keep {r c : Nat} {K K' : Int} {R : Int -> Int} {B : Int -> Leg} {H : Int -> Prop} {q : Int -> Nat} {at_ : Int} (h : Rk ls n f r c K R B H q at_) (hK : K <= K') : Rk ls n f r c K' R B H q at_ :=
  ⟨h.sk, h.dom, h.qd, h.qm, h.old, h.now, h.no, h.yes, fun v => by have := h.lo v; omega⟩
/-- A mark was gone through. -/
theorem Rk.mark {r c : Nat} {K : Int} {R : Int -> Int} {B : Int -> Leg} {H : Int -> Prop} {q : Int -> Nat} {at_ : Int} (h : Rk ls n f r c K R B H q at_) (hl : H c -> ∀ g, LegOk ls g -> sOf ls g = c -> Fin ls R H g) : Rk ls n f r (c + 1) K R B H q at_ :=
  ⟨h.sk, h.dom, h.qd, h.qm, h.old, fun m hm hc hq g hg hs => by
    by_cases e : m = c
    · rw [e] at hm hs
      exact hl hm g hg hs
    · exact h.now m hm (by omega) hq g hg hs, h.no, h.yes, h.lo⟩
/-- A round is over. -/
theorem Rk.round {r N : Nat} {K : Int} {R : Int -> Int} {B : Int -> Leg} {H : Int -> Prop} {q : Int -> Nat} {at_ : Int} (e : (N : Int) = n) (h : Rk ls n f r N K R B H q at_) : Rk ls n f (r + 1) 0 K R B H q (-1) :=
  ⟨h.sk, h.dom, h.qd, fun v => Nat.le_succ_of_le (h.qm v), fun m hm hq g hg hs => h.now m hm (by have := h.dom m hm; omega) (by omega) g hg hs, fun m hm hc => by have := h.dom m hm; omega, fun _ v => Nat.lt_succ_of_le (h.qm v), fun h' => absurd rfl h', h.lo⟩
theorem Rk.start {n f : Int} (hf : 0 <= f /\ f < n) (B : Int -> Leg) : Rk ls n f 1 0 0 (fun _ => 0) B (fun v => v = f) (fun _ => 0) (-1) where
  sk := ⟨rfl, fun v h => by omega, fun v h _ => h, fun k v hk h => by have := h 0 hk; omega⟩
  dom v h := by rw [h]; exact hf
  qd v h := by omega
  qm v := by omega
  old m _ h := by omega
  now m h hc := by omega
  no _ v := by omega
  yes h := absurd rfl h
  lo v := by omega
/-- Behind a round in which nothing sank the rises are heights. -/
theorem Rk.still {r N : Nat} {K : Int} {R : Int -> Int} {B : Int -> Leg} {H : Int -> Prop} {q : Int -> Nat} (e : (N : Int) = n) (h : Rk ls n f r N K R B H q (-1)) : ∀ g, LegOk ls g -> H (sOf ls g) -> Fin ls R H g :=
  fun g hg hm => h.now _ hm (by have := h.dom _ hm; omega) (h.no rfl _) g hg rfl
/-- Behind so many rounds one can go back N legs from a mark that sank in the last one. -/
theorem Rk.back {r N : Nat} {K : Int} {R : Int -> Int} {B : Int -> Leg} {H : Int -> Prop} {q : Int -> Nat} {at_ : Int} (h : Rk ls n f r N K R B H q at_) (ha : at_ ≠ -1) (hr : N + 1 <= r) : ∀ i, i <= N -> r <= q (bk ls B i at_) + i := by
  intro i
  induction i with
  | zero => intro _; have := h.yes ha; show r <= q at_ + 0; omega
  | succ i ih =>
    intro hi
    have h1 := ih (by omega)
    have h2 := (h.sk.leg (bk ls B i at_) (by omega)).2.2.2.2.2
    rw [bk_succ]
    omega
end Go.Nm
namespace Go.Nm
/-- A place of a table. -/
def tb (l : List (List Int)) (a b : Nat) : Int := (l.getD a []).getD b 0
structure Sq (N : Nat) (l : List (List Int)) : Prop where
  len : l.length = N
  rows : ∀ a, a < N -> (l.getD a []).length = N
theorem Sq.set {N a b : Nat} {l : List (List Int)} (h : Sq N l) (ha : a < N) (x : Int) : Sq N (l.set a ((l.getD a []).set b x)) := by
  refine ⟨by rw [List.length_set]; exact h.len, fun i hi => ?_⟩
  rw [gset _ _ _ _ _ (by rw [h.len]; exact ha)]
  by_cases e : i = a
  · rw [if_pos e, List.length_set]; exact h.rows a ha
  · rw [if_neg e]; exact h.rows i hi
theorem tb_set {N a b : Nat} {l : List (List Int)} (h : Sq N l) (ha : a < N) (hb : b < N) (x : Int) (i j : Nat) : tb (l.set a ((l.getD a []).set b x)) i j = if i = a /\ j = b then x else tb l i j := by
  unfold tb
  rw [gset _ _ _ _ _ (by rw [h.len]; exact ha)]
  by_cases e : i = a
  · subst e
    rw [if_pos rfl, gset _ _ _ _ _ (by rw [h.rows i ha]; exact hb)]
    by_cases e2 : j = b
    · rw [if_pos e2, if_pos ⟨rfl, e2⟩]
    · rw [if_neg e2, if_neg (fun h => e2 h.2)]
  · rw [if_neg e, if_neg (fun h => e h.1)]
/-- One step. -/
def up (k a b : Nat) (l : List (List Int)) : List (List Int) :=
  if tb l a k < 1000000000000 /\ tb l k b < 1000000000000 then l.set a ((l.getD a []).set b (max (-1000000000000) (min (tb l a b) (tb l a k + tb l k b)))) else l
theorem up_sq {N k a b : Nat} {l : List (List Int)} (h : Sq N l) (ha : a < N) : Sq N (up k a b l) := by
  unfold up
  split
  · exact h.set ha _
  · exact h
theorem tb_up {N k a b : Nat} {l : List (List Int)} (h : Sq N l) (ha : a < N) (hb : b < N) (i j : Nat) : tb (up k a b l) i j = if i = a /\ j = b /\ tb l a k < 1000000000000 /\ tb l k b < 1000000000000 then max (-1000000000000) (min (tb l a b) (tb l a k + tb l k b)) else tb l i j := by
  unfold up
  by_cases c : tb l a k < 1000000000000 /\ tb l k b < 1000000000000
  · rw [if_pos c, tb_set h ha hb]
    by_cases e : i = a /\ j = b
    · rw [if_pos e, if_pos ⟨e.1, e.2, c⟩]
    · rw [if_neg e, if_neg (fun h => e ⟨h.1, h.2.1⟩)]
  · rw [if_neg c, if_neg (fun h => c h.2.2)]
def bd : Nat -> Int
  | 0 => 1010000
  | k + 1 => 2 * bd k
theorem bd_pos : ∀ k, 0 < bd k
  | 0 => by decide
  | k + 1 => by have := bd_pos k; unfold bd; omega
theorem bd_le : ∀ k, k <= 12 -> bd k <= 5000000000 := by decide
/-- A table in which the first k marks were gone through. -/
structure RT (N k : Nat) (T0 T : Nat -> Nat -> Int) : Prop where
  lo : ∀ a b, a < N -> b < N -> -bd k <= T a b
  hi : ∀ a b, a < N -> b < N -> T a b = 1000000000000 ∨ T a b <= bd k
  cl : ∀ a b j, a < N -> b < N -> j < N -> j < k -> T a j < 1000000000000 -> T j b < 1000000000000 -> T a b <= T a j + T j b
  le : ∀ a b, a < N -> b < N -> T a b <= T0 a b
def FT (k : Nat) (T : Nat -> Nat -> Int) (a b : Nat) : Int := if T a k < 1000000000000 /\ T k b < 1000000000000 then min (T a b) (T a k + T k b) else T a b
theorem FT_row {k b : Nat} {T : Nat -> Nat -> Int} (h : 0 <= T k k) : FT k T k b = T k b := by
  unfold FT
  split <;> omega
theorem FT_col {k a : Nat} {T : Nat -> Nat -> Int} (h : 0 <= T k k) : FT k T a k = T a k := by
  unfold FT
  split <;> omega
theorem FT_le (k : Nat) (T : Nat -> Nat -> Int) (a b : Nat) : FT k T a b <= T a b := by
  unfold FT
  split <;> omega
theorem RT.next {N k : Nat} {T0 T : Nat -> Nat -> Int} (h : RT N k T0 T) (hk : k < N) (hN : N <= 12) (hp : 0 <= T k k) : RT N (k + 1) T0 (FT k T) := by
  have hb := bd_le (k + 1) (by omega)
  have hb0 := bd_pos k
  have e2 : bd (k + 1) = 2 * bd k := rfl
  refine ⟨fun a b ha hb => ?_, fun a b ha hb => ?_, fun a b j ha hb hj hjk h1 h2 => ?_, fun a b ha hb => Int.le_trans (FT_le k T a b) (h.le a b ha hb)⟩
  · have l1 := h.lo a b ha hb
    have l2 := h.lo a k ha hk
    have l3 := h.lo k b hk hb
    unfold FT
    split <;> omega
  · have l1 := h.hi a b ha hb
    have l2 := h.hi a k ha hk
    have l3 := h.hi k b hk hb
    unfold FT
    split <;> omega
  · have kj := h.lo k j hk hj
    have jk := h.lo j k hj hk
    have ak := h.lo a k ha hk
    have kb := h.lo k b hk hb
    have hkj := h.hi k j hk hj
    have hjk' := h.hi j k hj hk
    have hak := h.hi a k ha hk
    have hkb := h.hi k b hk hb
    have haj := h.hi a j ha hj
    have hjb := h.hi j b hj hb
    have hab := h.hi a b ha hb
    by_cases e : j = k
    · subst e
      rw [FT_col hp] at h1 ⊢
      rw [FT_row hp] at h2 ⊢
      unfold FT
      rw [if_pos ⟨h1, h2⟩]
      omega
    · have hjk2 : j < k := by omega
      have c1 := h.cl a b j ha hb hj hjk2
      have c2 := h.cl k b j hk hb hj hjk2
      have c3 := h.cl a k j ha hk hj hjk2
      have c4 := h.cl k k j hk hk hj hjk2
      unfold FT at h1 h2 ⊢
      split at h1 <;> split at h2 <;> split <;> (try split) <;> (try split) <;> omega
/-- A table through which all marks were gone, without a mark that is lower than itself, gives heights. -/
theorem RT.feas {N : Nat} {ls : List Line} {T0 T : Nat -> Nat -> Int} (h : RT N N T0 T) (hN : 1 <= N) (hR : Rng N ls) (h0 : ∀ a b c, Ed ls (a : Nat) (b : Nat) c -> T0 a b <= c) (hc : ∀ a b c, Ed ls a b c -> c <= 1010000) (hd : ∀ a, a < N -> T a a <= 0) : Agr ls := by
  have col : ∀ v : Nat, ∀ m : Nat, m <= N -> 1 <= m -> ∃ a, a < m /\ ∀ x, x < m -> T a v <= T x v := by
    intro v m
    induction m with
    | zero => intro _ h; omega
    | succ m ih =>
      intro hm _
      by_cases e : m = 0
      · subst e; exact ⟨0, by omega, fun x hx => by rw [show x = 0 by omega]; exact Int.le_refl _⟩
      · obtain ⟨a, ha, hx⟩ := ih (by omega) (by omega)
        by_cases c : T m v < T a v
        · refine ⟨m, by omega, fun x hx' => ?_⟩
          by_cases e2 : x = m
          · rw [e2]; exact Int.le_refl _
          · have := hx x (by omega); omega
        · refine ⟨a, by omega, fun x hx' => ?_⟩
          by_cases e2 : x = m
          · rw [e2]; omega
          · exact hx x (by omega)
  have pick : ∀ v : Nat, ∃ a, a < N /\ ∀ x, x < N -> T a v <= T x v := fun v => col v N (Nat.le_refl _) hN
  refine ⟨fun v => T (pick v.toNat).choose v.toNat, feas_of fun m g c he => ?_⟩
  have hr := he.rng hR
  obtain ⟨m, rfl⟩ : ∃ k : Nat, m = k := ⟨m.toNat, by omega⟩
  obtain ⟨g, rfl⟩ : ∃ k : Nat, g = k := ⟨g.toNat, by omega⟩
  simp only [Int.toNat_natCast]
  obtain ⟨p1, p2⟩ := (pick m).choose_spec
  obtain ⟨q1, q2⟩ := (pick g).choose_spec
  generalize (pick m).choose = p at *
  generalize (pick g).choose = q at *
  have hm : m < N := by omega
  have hg : g < N := by omega
  have e1 := p2 m hm
  have e2 := hd m hm
  have e3 := q2 p p1
  have e4 := h.le m g hm hg
  have e5 := h0 m g c he
  have e6 := hc _ _ _ he
  have := h.cl p g m p1 hg hm hm (by omega) (by omega)
  omega
end Go.Nm
namespace Go.Proofs.Ytclhljenjphofaa
open Go Go.Nm
variable {ls : List Line} {n : Int}
theorem start_ends {g : Leg} (hg : LegOk ls g) : (m_level_survey_start n ls g).Ends (sOf ls g) := by
  unfold m_level_survey_start
  exact M.i_grd (gA2 hg.1 hg.2) M.i_pure
theorem goal_ends {g : Leg} (hg : LegOk ls g) : (m_level_survey_goal n ls g).Ends (gOf ls g) := by
  unfold m_level_survey_goal
  exact M.i_grd (gA2 hg.1 hg.2) M.i_pure
theorem rise_ends {N : Int} (hN : NetOk N ls) {g : Leg} (hg : LegOk ls g) : (m_level_survey_rise n ls g).Ends (rOf ls g) := by
  unfold m_level_survey_rise
  have h1 := hN.rise _ hg.mem
  have h2 := hN.err _ hg.mem
  unfold lnOf at h1 h2
  refine M.i_grd (gA2 hg.1 hg.2) (M.i_if (fun hb => ?_) (fun hb => ?_))
  · unfold rOf; rw [hb]
    exact M.i_grd (gA2 (by omega) (by omega)) M.i_pure
  · unfold rOf; rw [hb]
    exact M.i_grd (gA2 (by omega) (by omega)) M.i_pure
theorem sum2_ends {x y : Int} (h1 : -1000000000000000 <= x /\ x <= 1000000000000000) (h2 : -1000000000000000 <= y /\ y <= 1000000000000000) : (m_level_sum [x, y]).Ends (x + y) := by
  unfold m_level_sum
  refine M.i_bind (a := x + y) ?_ M.i_pure
  refine M.i_next (s' := (0 + x, 0 + 1)) ?_ (M.i_next (s' := (0 + x + y, 0 + 1 + 1)) ?_ (M.i_stop ?_))
  · simp only [m_level_sum_b0]
    exact M.i_t (by simp) (M.i_grd (by simp) (M.i_grd (gA2 (by simp; omega) (by simp; omega)) M.i_pure))
  · simp only [m_level_sum_b0]
    exact M.i_t (by simp) (M.i_grd (by simp) (M.i_grd (gA2 (by simp; omega) (by simp; omega)) M.i_pure))
  · simp only [m_level_sum_b0]
    rw [show x + y = 0 + x + y by omega]
    exact M.i_f (by simp) M.i_pure
/-- A walk over the legs that begin at a mark. -/
theorem legs_out {S X : Type} {bd : S -> Leg -> M (S ⊕ X)} {m : Int} (J : Nat -> S -> Prop) (QX : X -> Prop)
    (step : ∀ (i : Nat) (k : Bool) (s : S), i < ls.length -> sOf ls ⟨i, k⟩ = m -> J (2 * i + k.toNat) s -> (bd s ⟨i, k⟩).Out (fun r => match r with | .inl s' => J (2 * i + k.toNat + 1) s' | .inr x => QX x))
    (skip : ∀ (i : Nat) (k : Bool) (s : S), i < ls.length -> sOf ls ⟨i, k⟩ ≠ m -> J (2 * i + k.toNat) s -> J (2 * i + k.toNat + 1) s)
    {s : S} (h : J 0 s) : (m_level_survey_legs_1 (M.yl bd) (.inl s) n ls m).Out (fun r => match r with | .inl s' => J (2 * ls.length) s' | .inr x => QX x) := by
  unfold m_level_survey_legs_1
  refine M.o_bind (P := fun y => match y with | .inl t => ∃ x, t = .inr x /\ QX x | .inr t => ∃ s, t = .inl s /\ J (2 * ls.length) s) ?_ ?_
  · refine M.o_for ls.length (fun i st => st.1 = i /\ ∃ s, st.2 = .inl s /\ J (2 * i) s) ?_ ?_ ⟨rfl, s, rfl, h⟩
    · rintro i ⟨s2, t⟩ hi ⟨rfl, s, rfl, hJ⟩
      dsimp only at hi hJ
      have one : ∀ (k : Bool) (s : S), J (2 * s2 + k.toNat) s -> (M.bind (m_level_survey_start n ls ⟨s2, k⟩) fun r2 => M.bind (M.opt (r2 == m) (M.yl bd (.inl s) ⟨s2, k⟩) (false, .inl s)) fun (go, t) =>
          bif ((r2 == m) && (!go)) then (M.pure (.inr (.inl t))) else (M.pure (.inl (k.toNat + 1, t)))).Out
          (fun y : ((Nat × (S ⊕ X)) ⊕ ((S ⊕ X) ⊕ (S ⊕ X))) => match y with | .inl st => st.1 = k.toNat + 1 /\ ∃ s, st.2 = .inl s /\ J (2 * s2 + (k.toNat + 1)) s | .inr (.inl t) => ∃ x, t = .inr x /\ QX x | .inr (.inr _) => False) := by
        intro k s hJ
        refine M.o_bindE (start_ends ⟨by show (0 : Int) <= (s2 : Int); omega, by show (s2 : Int) < _; omega⟩) ?_
        by_cases hm : sOf ls ⟨s2, k⟩ = m
        · have hb : (sOf ls ⟨s2, k⟩ == m) = true := by rw [beq_iff_eq]; exact hm
          rw [hb]
          refine M.o_bind (P := fun y => match y.1 with | true => ∃ s, y.2 = .inl s /\ J (2 * s2 + k.toNat + 1) s | false => ∃ x, y.2 = .inr x /\ QX x) ?_ ?_
          · refine M.o_bind (step s2 k s hi hm hJ) ?_
            rintro (s' | x) hs
            · exact M.o_pure ⟨s', rfl, hs⟩
            · exact M.o_pure ⟨x, rfl, hs⟩
          · rintro ⟨go, t⟩ hy
            cases go with
            | true => exact M.o_pure ⟨rfl, hy⟩
            | false => exact M.o_pure hy
        · have hb : (sOf ls ⟨s2, k⟩ == m) = false := by rw [beq_eq_false_iff_ne]; exact hm
          rw [hb]
          refine M.o_bindE (a := (false, .inl s)) (M.i_opt (fun h => by cases h) (fun _ => rfl)) ?_
          exact M.o_pure ⟨rfl, s, rfl, skip s2 k s hi hm hJ⟩
      simp only [m_level_survey_legs_1_b2]
      refine M.o_t (by simpa using hi) ?_
      refine M.o_bind (P := fun y => match y with | .inl t => ∃ x, t = .inr x /\ QX x | .inr t => ∃ s, t = .inl s /\ J (2 * (s2 + 1)) s) ?_ ?_
      · refine M.o_for 2 (fun j st => st.1 = j /\ ∃ s, st.2 = .inl s /\ J (2 * s2 + j) s) ?_ ?_ ⟨rfl, s, rfl, hJ⟩
        · rintro j ⟨s3, t⟩ hj ⟨rfl, s, rfl, hJ⟩
          dsimp only at hj hJ
          simp only [m_level_survey_legs_1_b1]
          refine M.o_t (by simp; omega) (M.o_grd (by simp; omega) ?_)
          rcases (show s3 = 0 ∨ s3 = 1 by omega) with rfl | rfl
          · exact M.o_mono (one false s hJ) (fun y hy => by rcases y with st | t | t; exact hy; exact hy; exact hy.elim)
          · exact M.o_mono (one true s hJ) (fun y hy => by rcases y with st | t | t; exact hy; exact hy; exact hy.elim)
        · rintro ⟨s3, t⟩ ⟨rfl, s, rfl, hJ⟩
          simp only [m_level_survey_legs_1_b1]
          exact M.o_f (by simp) (M.o_pure ⟨s, rfl, hJ⟩)
      · rintro (t | t) hy
        · exact M.o_pure hy
        · exact M.o_pure ⟨rfl, hy⟩
    · rintro ⟨s2, t⟩ ⟨rfl, s, rfl, hJ⟩
      simp only [m_level_survey_legs_1_b2]
      exact M.o_f (by simp) (M.o_pure ⟨s, rfl, hJ⟩)
  · rintro (t | t) hy
    · obtain ⟨x, rfl, hx⟩ := hy
      exact M.o_pure hx
    · obtain ⟨s, rfl, hs⟩ := hy
      exact M.o_pure hs
end Go.Proofs.Ytclhljenjphofaa
section
set_option maxRecDepth 100000
set_option maxHeartbeats 16000000
namespace Go.Proofs.Ytclhljenjphofaa
open Go Go.Nm
variable {ls : List Line} {n a : Int}
theorem ij {i : Nat} {k : Bool} (hi : i < ls.length) : LegOk ls ⟨i, k⟩ := ⟨by show (0 : Int) <= (i : Int); omega, by show (i : Int) < _; omega⟩
/-- One leg. -/
theorem fill_leg (hN : NetOk n ls) (ha : 0 <= a /\ a < n) {can0 can : List Int} {by0 by_ : List Leg} {k : Int} {m i : Nat} {b : Bool} (hi : i < ls.length) (hs : sOf ls ⟨i, b⟩ = (m : Int)) (hk : 0 <= k /\ k <= 100000) (h : FI ls n a can0 by0 k can by_) (hd : rw_ can a m < 1099511627776) :
    (m_level_survey_fill_b4 n ls a m (can, by_) ⟨i, b⟩).Out (fun r => match r with | .inl s => FI ls n a can0 by0 (k + 1) s.1 s.2 /\ (∀ v, 0 <= v -> v < n -> rw_ s.1 a v <= rw_ can a v) /\ rw_ s.1 a (gOf ls ⟨i, b⟩) <= rw_ can a m + rOf ls ⟨i, b⟩ | .inr _ => False) := by
  have hx : LegOk ls ⟨i, b⟩ := ij hi
  have hr := hx.ed.rng hN.rng
  have hm := hN.marks
  have hc := hN.ed _ _ _ hx.ed
  have hlo := h.bf.low m (by omega) (by rw [← hs]; exact hr.1.2)
  simp only [m_level_survey_fill_b4]
  refine M.o_bindE (rise_ends hN hx) ?_
  refine M.o_bindE (a := rw_ can a m + rOf ls ⟨i, b⟩) (sum2_ends (x := can.getD (Int.toNat a * 13 + m) 0) (by unfold rw_ at hlo hd; rw [Int.toNat_natCast] at hlo hd; omega) (by omega)) ?_
  refine M.o_bindE (goal_ends hx) ?_
  refine M.o_grd (gA2 (by omega) (by omega)) ?_
  refine M.o_if (fun hb => ?_) (fun hb => ?_)
  · have hb := of_decide_eq_true hb
    refine M.o_bindE (goal_ends hx) (M.o_bindE (goal_ends hx) (M.o_grd (gA2 (by omega) (by omega)) (M.o_grd (gA2 (by omega) (by omega)) (M.o_pure ?_))))
    have h1 := h.relax hN ha hk.1 hx (by rw [hs]; exact hd) (by rw [hs]; exact hb)
    rw [hs] at h1
    have e1 : ∀ v, 0 <= v -> v < n -> rw_ (can.set (Int.toNat a * 13 + Int.toNat (gOf ls ⟨i, b⟩)) (rw_ can a m + rOf ls ⟨i, b⟩)) a v = if v = gOf ls ⟨i, b⟩ then rw_ can a m + rOf ls ⟨i, b⟩ else rw_ can a v := fun v h0 h3 => rw_set h.lc (by omega) (by omega) _ v h0 (by omega)
    refine ⟨h1, fun v h0 h3 => ?_, ?_⟩
    · dsimp only
      rw [e1 v h0 h3]
      split
      · rename_i e
        rw [e]
        exact Int.le_of_lt hb
      · exact Int.le_refl _
    · dsimp only
      rw [e1 _ hr.2.1 hr.2.2, if_pos rfl]
      exact Int.le_refl _
  · have hb := of_decide_eq_false hb
    refine M.o_pure ⟨h.mono (by omega), fun v _ _ => Int.le_refl _, ?_⟩
    dsimp only
    unfold rw_ at *
    omega
/-- The legs at a mark. -/
theorem fill_mark (hN : NetOk n ls) (ha : 0 <= a /\ a < n) {can0 can : List Int} {by0 by_ : List Leg} {k : Int} {m : Nat} (hm : (m : Int) < n) (hk : 0 <= k /\ k <= 90000) (h : FI ls n a can0 by0 k can by_) {D0 : Int -> Int} (hle : ∀ v, 0 <= v -> v < n -> rw_ can a v <= D0 v) (hR : Rlx ls D0 (rw_ can a) (fun i b => sOf ls ⟨i, b⟩ < (m : Int))) (hd : rw_ can a m < 1099511627776) :
    (m_level_survey_legs_1 (M.yl (m_level_survey_fill_b4 n ls a m)) (.inl (can, by_)) n ls m).Out (fun r => match r with | .inl s => FI ls n a can0 by0 (k + 60) s.1 s.2 /\ (∀ v, 0 <= v -> v < n -> rw_ s.1 a v <= D0 v) /\ Rlx ls D0 (rw_ s.1 a) (fun i b => sOf ls ⟨i, b⟩ < (m : Int) + 1) | .inr _ => False) := by
  have hf := hN.few
  refine M.o_mono (legs_out (m := (m : Int)) (fun idx s => FI ls n a can0 by0 (k + idx) s.1 s.2 /\ (∀ v, 0 <= v -> v < n -> rw_ s.1 a v <= D0 v) /\ rw_ s.1 a m < 1099511627776 /\ Rlx ls D0 (rw_ s.1 a) (fun i b => sOf ls ⟨i, b⟩ < (m : Int) ∨ (sOf ls ⟨i, b⟩ = (m : Int) /\ 2 * i + b.toNat < idx))) (fun _ => False) ?_ ?_ (s := (can, by_)) ⟨h.mono (by omega), hle, hd, hR.le hN.rng (fun v _ _ => Int.le_refl _) (fun i b _ hp => by rcases hp with hp | ⟨_, hp⟩; exact hp; omega)⟩) ?_
  · rintro i b ⟨s, s2⟩ hi hs ⟨hF, hle, hd, hR⟩
    dsimp only at hF hle hd hR
    have hb2 : b.toNat <= 1 := by cases b <;> decide
    refine M.o_mono (fill_leg hN ha hi hs (by omega) hF hd) ?_
    rintro (⟨t, t2⟩ | x) hy
    · obtain ⟨h1, h2, h3⟩ := hy
      dsimp only at h1 h2 h3 ⊢
      refine ⟨h1.mono (by omega), fun v h0 h4 => Int.le_trans (h2 v h0 h4) (hle v h0 h4), Int.lt_of_le_of_lt (h2 m (by omega) hm) hd, fun i' b' hi' hp hd0 => ?_⟩
      have hr' := ((ij (k := b') hi').ed.rng hN.rng).2
      by_cases e : sOf ls ⟨i', b'⟩ < (m : Int) ∨ (sOf ls ⟨i', b'⟩ = (m : Int) /\ 2 * i' + b'.toNat < 2 * i + b.toNat)
      · have := hR i' b' hi' e hd0
        have := h2 _ hr'.1 hr'.2
        omega
      · have hb3 : b'.toNat <= 1 := by cases b' <;> decide
        have e2 : i' = i /\ b' = b := by
          have : 2 * i' + b'.toNat = 2 * i + b.toNat := by omega
          refine ⟨by omega, ?_⟩
          have : b'.toNat = b.toNat := by omega
          cases b <;> cases b' <;> simp_all
        obtain ⟨rfl, rfl⟩ := e2
        rw [hs] at hd0 ⊢
        have := hle m (by omega) hm
        omega
    · exact hy.elim
  · rintro i b ⟨s, s2⟩ hi hs ⟨hF, hle, hd, hR⟩
    refine ⟨hF.mono (by omega), hle, hd, hR.le hN.rng (fun v _ _ => Int.le_refl _) (fun i' b' hi' hp => ?_)⟩
    rcases hp with hp | ⟨hp, hp2⟩
    · exact .inl hp
    · have hb2 : b.toNat <= 1 := by cases b <;> decide
      have hb3 : b'.toNat <= 1 := by cases b' <;> decide
      refine .inr ⟨hp, ?_⟩
      rcases Nat.lt_or_ge (2 * i' + b'.toNat) (2 * i + b.toNat) with h | h
      · exact h
      · exfalso
        have : 2 * i' + b'.toNat = 2 * i + b.toNat := by omega
        have e1 : i' = i := by omega
        subst e1
        have e2 : b' = b := by
          have : b'.toNat = b.toNat := by omega
          cases b <;> cases b' <;> simp_all
        subst e2
        exact hs hp
  · rintro (s | x) hy
    · obtain ⟨h1, h2, h3, h4⟩ := hy
      refine ⟨h1.mono (by omega), h2, h4.le hN.rng (fun v _ _ => Int.le_refl _) (fun i b hi hp => ?_)⟩
      have hb2 : b.toNat <= 1 := by cases b <;> decide
      by_cases e : sOf ls ⟨i, b⟩ < (m : Int)
      · exact .inl e
      · exact .inr ⟨by omega, by omega⟩
    · exact hy.elim
/-- A row. -/
theorem fill_out (hN : NetOk n ls) (ha : 0 <= a /\ a < n) {can : List Int} {by_ : List Leg} (lc : can.length = 169) (lb : by_.length = 169) (h0 : ∀ v, 0 <= v -> v < n -> rw_ can a v = if v = a then 0 else 1099511627776) :
    (m_level_survey_fill n ls can by_ a).Out (fun r => FI ls n a can by_ 8640 r.1 r.2 /\ Cov ls a (rw_ r.1 a) (Int.toNat n)) := by
  have hm := hN.marks
  have hI : FI ls n a can by_ 0 can by_ := ⟨lc, lb, fun _ _ => ⟨rfl, rfl⟩, (BF.init ls n a).congr ha hN.rng h0, (ByOk.init ls n a (rb_ by_ a)).congr hN h0 (fun _ _ _ => rfl)⟩
  unfold m_level_survey_fill
  refine M.o_grd (gA2 (by omega) (by omega)) ?_
  refine M.o_bind (P := fun r => FI ls n a can by_ 8640 r.1 r.2 /\ Cov ls a (rw_ r.1 a) (Int.toNat n)) ?_ (fun y hy => M.o_pure hy)
  refine M.o_for (Int.toNat n) (fun r st => st.2.2 = r /\ FI ls n a can by_ (720 * r) st.1 st.2.1 /\ Cov ls a (rw_ st.1 a) r) ?_ ?_ (s := (can, by_, 0)) ⟨rfl, hI.mono (by simp), Cov.zero (by rw [h0 a ha.1 ha.2, if_pos rfl]; exact Int.le_refl _)⟩
  · rintro r ⟨c, y, r'⟩ hr ⟨rfl, hF, hC⟩
    dsimp only at hr hF hC
    simp only [m_level_survey_fill_b6]
    refine M.o_t (by simp; omega) ?_
    refine M.o_bind (P := fun q => FI ls n a can by_ (720 * (r' + 1)) q.1 q.2 /\ Cov ls a (rw_ q.1 a) (r' + 1)) ?_ ?_
    · refine M.o_for (Int.toNat n) (fun m st => st.1 = m /\ FI ls n a can by_ (720 * r' + 60 * m) st.2.1 st.2.2 /\ (∀ v, 0 <= v -> v < n -> rw_ st.2.1 a v <= rw_ c a v) /\ Rlx ls (rw_ c a) (rw_ st.2.1 a) (fun i b => sOf ls ⟨i, b⟩ < (m : Int))) ?_ ?_ (s := (0, c, y)) ⟨rfl, hF.mono (by simp), fun v _ _ => Int.le_refl _, fun i b hi hp _ => by have := ((ij (k := b) hi).ed.rng hN.rng).1; omega⟩
      · rintro m ⟨m', s, s2⟩ hmn ⟨rfl, hF, hle, hR⟩
        dsimp only at hmn hF hle hR
        simp only [m_level_survey_fill_b5]
        refine M.o_t (by simp; omega) (M.o_grd (gA2 (by omega) (by omega)) (M.o_if (fun hb => ?_) (fun hb => ?_)))
        · have hb := beq_iff_eq.1 hb
          refine M.o_grd (gA2 (by omega) (by omega)) (M.o_pure ⟨rfl, hF.mono (by omega), hle, fun i b hi hp hd => ?_⟩)
          by_cases e : sOf ls ⟨i, b⟩ < (m' : Int)
          · exact hR i b hi e hd
          · exfalso
            have e2 : sOf ls ⟨i, b⟩ = (m' : Int) := by omega
            have := hle m' (by omega) (by omega)
            rw [e2] at hd
            unfold rw_ at this hd
            rw [Int.toNat_natCast] at this hd
            omega
        · have hb := beq_eq_false_iff_ne.1 hb
          have htop := hF.bf.top m' (by omega) (by omega)
          have hd : rw_ s a m' < 1099511627776 := by
            unfold rw_ at htop ⊢
            rw [Int.toNat_natCast] at htop ⊢
            omega
          refine M.o_bindE (a := (m' : Int)) M.i_pure ?_
          refine M.o_bind (fill_mark hN ha (m := m') (by omega) (by omega) hF hle hR hd) ?_
          rintro (⟨t, t2⟩ | x) hy
          · refine M.o_grd (gA2 (by omega) (by omega)) (M.o_pure ⟨rfl, hy.1.mono (by omega), hy.2.1, hy.2.2.le hN.rng (fun v _ _ => Int.le_refl _) (fun i b _ hp => by omega)⟩)
          · exact hy.elim
      · rintro ⟨m', s, s2⟩ ⟨rfl, hF, hle, hR⟩
        dsimp only at hF hle hR
        simp only [m_level_survey_fill_b5]
        refine M.o_f (by simp; omega) (M.o_pure ⟨hF.mono (by omega), ?_⟩)
        refine hC.next hN (by omega) ha hle ?_
        refine Rlx.all (hR.le hN.rng (fun v _ _ => Int.le_refl _) (fun i b hi _ => ?_))
        have := ((ij (k := b) hi).ed.rng hN.rng).1
        omega
    · rintro ⟨q, q2⟩ ⟨h1, h2⟩
      exact M.o_grd (gA2 (by omega) (by omega)) (M.o_pure ⟨rfl, h1.mono (by omega), h2⟩)
  · rintro ⟨c, y, r'⟩ ⟨rfl, hF, hC⟩
    simp only [m_level_survey_fill_b6]
    exact M.o_f (by simp; omega) (M.o_pure ⟨hF.mono (by omega), hC⟩)
end Go.Proofs.Ytclhljenjphofaa
end
section
set_option maxRecDepth 100000
set_option maxHeartbeats 16000000
namespace Go.Proofs.Ytclhljenjphofaa
open Go Go.Nm
variable {ls : List Line} {n a : Int}
theorem rw_nat (can : List Int) (i j : Nat) : rw_ can i j = can.getD (i * 13 + j) 0 := by unfold rw_; rw [Int.toNat_natCast, Int.toNat_natCast]
theorem worked_out (hN : NetOk n ls) : (m_level_worked n ls).Out (fun r => r.1 = n /\ Wkd ls n r.2.1 r.2.2) := by
  have hm := hN.marks
  unfold m_level_worked
  refine M.o_bind (P := fun c => c.length = 169 /\ ∀ i j : Nat, (i : Int) < n -> (j : Int) < n -> c.getD (i * 13 + j) 0 = if j = i then 0 else 1099511627776) ?_ ?_
  · refine M.o_for (Int.toNat n) (fun i st => st.2 = i /\ st.1.length = 169 /\ ∀ i' j : Nat, i' < i -> (j : Int) < n -> st.1.getD (i' * 13 + j) 0 = if j = i' then 0 else 1099511627776) ?_ ?_ (s := (List.replicate 169 0, 0)) ⟨rfl, List.length_replicate, fun i' j h => by omega⟩
    · rintro i ⟨c, i0⟩ hi ⟨rfl, hl, hc⟩
      dsimp only at hi hl hc
      simp only [m_level_worked_b2]
      refine M.o_t (by simp; omega) ?_
      refine M.o_bind (P := fun d => d.length = 169 /\ (∀ i' j : Nat, i' < i0 -> (j : Int) < n -> d.getD (i' * 13 + j) 0 = if j = i' then 0 else 1099511627776) /\ ∀ j : Nat, (j : Int) < n -> d.getD (i0 * 13 + j) 0 = 1099511627776) ?_ ?_
      · refine M.o_for (Int.toNat n) (fun j st => st.2 = j /\ st.1.length = 169 /\ (∀ i' j : Nat, i' < i0 -> (j : Int) < n -> st.1.getD (i' * 13 + j) 0 = if j = i' then 0 else 1099511627776) /\ ∀ j' : Nat, j' < j -> st.1.getD (i0 * 13 + j') 0 = 1099511627776) ?_ ?_ (s := (c, 0)) ⟨rfl, hl, hc, fun j h => by omega⟩
        · rintro j ⟨d, j0⟩ hj ⟨rfl, hl, hd, he⟩
          dsimp only at hj hl hd he
          simp only [m_level_worked_b1]
          refine M.o_t (by simp; omega) (M.o_grd (gA2 (by omega) (by omega)) (M.o_grd (gA2 (by omega) (by omega)) (M.o_grd (gA2 (by omega) (by omega)) (M.o_pure ⟨rfl, by simpa using hl, fun i' j h1 h2 => ?_, fun j' h1 => ?_⟩))))
          · dsimp only
            rw [gset _ _ _ _ _ (by omega), if_neg (by omega)]
            exact hd i' j h1 h2
          · dsimp only
            rw [gset _ _ _ _ _ (by omega)]
            by_cases e : j' = j0
            · rw [e, if_pos rfl]
            · rw [if_neg (by omega)]; exact he j' (by omega)
        · rintro ⟨d, j0⟩ ⟨rfl, hl, hd, he⟩
          simp only [m_level_worked_b1]
          exact M.o_f (by simp; omega) (M.o_pure ⟨hl, hd, fun j h => he j (by omega)⟩)
      · rintro d ⟨hl, hd, he⟩
        refine M.o_grd (gA2 (by omega) (by omega)) (M.o_grd (gA2 (by omega) (by omega)) (M.o_pure ⟨rfl, by simpa using hl, fun i' j h1 h2 => ?_⟩))
        dsimp only
        rw [gset _ _ _ _ _ (by omega)]
        by_cases e : i' = i0
        · subst e
          by_cases e2 : j = i'
          · subst e2; rw [if_pos rfl, if_pos rfl]
          · rw [if_neg (by omega), if_neg e2]; exact he j h2
        · rw [if_neg (by omega)]; exact hd i' j (by omega) h2
    · rintro ⟨c, i0⟩ ⟨rfl, hl, hc⟩
      simp only [m_level_worked_b2]
      exact M.o_f (by simp; omega) (M.o_pure ⟨hl, fun i j h1 h2 => hc i j (by omega) h2⟩)
  · rintro c ⟨hl, hc⟩
    refine M.o_bind (P := fun r => Wkd ls n r.1 r.2) ?_ (fun r hr => M.o_pure ⟨rfl, hr⟩)
    refine M.o_for (Int.toNat n) (fun i st => st.2.2 = i /\ st.1.length = 169 /\ st.2.1.length = 169 /\ (∀ a : Nat, a < i -> Row ls n a (rw_ st.1 a) (rb_ st.2.1 a)) /\ ∀ a j : Nat, i <= a -> (a : Int) < n -> (j : Int) < n -> st.1.getD (a * 13 + j) 0 = if j = a then 0 else 1099511627776) ?_ ?_ (s := (c, List.replicate 169 default, 0)) ⟨rfl, hl, List.length_replicate, fun a h => by omega, fun a j _ h1 h2 => hc a j h1 h2⟩
    · rintro i ⟨c, y, i0⟩ hi ⟨rfl, hl, hy, hd, hc⟩
      dsimp only at hi hl hy hd hc
      simp only [m_level_worked_b3]
      refine M.o_t (by simp; omega) ?_
      refine M.o_bind (fill_out hN (a := (i0 : Int)) (by omega) hl hy ?_) ?_
      · intro v h0 h1
        have := hc i0 v.toNat (Nat.le_refl _) (by omega) (by omega)
        unfold rw_
        rw [Int.toNat_natCast, this]
        by_cases e : v = (i0 : Int)
        · rw [if_pos e, if_pos (by omega)]
        · rw [if_neg e, if_neg (by omega)]
      · rintro ⟨q, q2⟩ ⟨hF, hC⟩
        refine M.o_grd (gA2 (by omega) (by omega)) (M.o_pure ⟨rfl, hF.lc, hF.lb, fun a h => ?_, fun a j h1 h2 h3 => ?_⟩)
        · by_cases e : a = i0
          · subst e; exact ⟨hF.bf, hC, hF.bo⟩
          · refine (hd a (by omega)).congr hN (by omega) (fun v h0 h1 => ?_) (fun v h0 h1 => ?_)
            · have := (hF.oth (a * 13 + v.toNat) (by rw [Int.toNat_natCast]; omega)).1
              unfold rw_; rw [Int.toNat_natCast]; exact this
            · have := (hF.oth (a * 13 + v.toNat) (by rw [Int.toNat_natCast]; omega)).2
              unfold rb_; rw [Int.toNat_natCast]; exact this
        · have := (hF.oth (a * 13 + j) (by rw [Int.toNat_natCast]; omega)).1
          dsimp only
          rw [this]
          exact hc a j (by omega) h2 h3
    · rintro ⟨c, y, i0⟩ ⟨rfl, hl, hy, hd, hc⟩
      simp only [m_level_worked_b3]
      refine M.o_f (by simp; omega) (M.o_pure ⟨hl, hy, fun a h0 h1 => ?_⟩)
      have := hd a.toNat (by omega)
      rwa [Int.toNat_of_nonneg h0] at this
theorem open_out (hN : NetOk n ls) {can : List Int} {by_ : List Leg} (hW : Wkd ls n can by_) : (m_level_survey_open n ls can by_).Out (fun b => b = true ↔ ¬ Agr ls) := by
  have hm := hN.marks
  have leg : ∀ (m i : Nat) (b : Bool), i < ls.length -> sOf ls ⟨i, b⟩ = (m : Int) -> (m_level_survey_open_b5 n ls can m () ⟨i, b⟩).Out (fun r => match r with | .inl _ => ∀ a, 0 <= a -> a < n -> ¬ Rx ls can a ⟨i, b⟩ | .inr _ => ∃ a, (0 <= a /\ a < n) /\ Rx ls can a ⟨i, b⟩) := by
    intro m i b hi hs
    have hx : LegOk ls ⟨i, b⟩ := ij hi
    have hr := hx.ed.rng hN.rng
    have hc := hN.ed _ _ _ hx.ed
    simp only [m_level_survey_open_b5]
    refine M.o_bind (P := fun y => match y with | .inl _ => ∃ a, (0 <= a /\ a < n) /\ Rx ls can a ⟨i, b⟩ | .inr _ => ∀ a, 0 <= a -> a < n -> ¬ Rx ls can a ⟨i, b⟩) ?_ (fun y hy => by rcases y with y | y <;> exact M.o_pure hy)
    refine M.o_for (Int.toNat n) (fun k s => s = k /\ ∀ a : Nat, a < k -> ¬ Rx ls can a ⟨i, b⟩) ?_ ?_ (s := 0) ⟨rfl, fun a h => by omega⟩
    · rintro k s hk ⟨rfl, hJ⟩
      have e0 : rw_ can s (sOf ls ⟨i, b⟩) = can.getD (s * 13 + m) 0 := by rw [hs]; exact rw_nat can s m
      have e1 : rw_ can s (gOf ls ⟨i, b⟩) = can.getD (s * 13 + Int.toNat (gOf ls ⟨i, b⟩)) 0 := by unfold rw_; rw [Int.toNat_natCast]
      have hlo := (hW.row s (by omega) (by omega)).bf.low (sOf ls ⟨i, b⟩) hr.1.1 hr.1.2
      rw [e0] at hlo
      simp only [m_level_survey_open_b4]
      refine M.o_t (by simp; omega) (M.o_grd (gA2 (by omega) (by omega)) (M.o_grd (gA2 (by omega) (by omega)) ?_))
      by_cases hd : can.getD (s * 13 + m) 0 < 1099511627776
      · have hd' : decide (can.getD (s * 13 + m) 0 < 1099511627776) = true := decide_eq_true hd
        rw [hd']
        refine M.o_bindE (a := rOf ls ⟨i, b⟩) (M.i_opt (fun _ => rise_ends hN hx) (fun h => by cases h)) (M.o_grd (gOr2 (by omega) (by omega)) (M.o_bindE (a := gOf ls ⟨i, b⟩) (M.i_opt (fun _ => goal_ends hx) (fun h => by cases h)) (M.o_grd (gOr2 (by omega) (by omega)) ?_)))
        by_cases h2 : can.getD (s * 13 + m) 0 + rOf ls ⟨i, b⟩ < can.getD (s * 13 + Int.toNat (gOf ls ⟨i, b⟩)) 0
        · exact M.o_t (by rw [Bool.true_and]; exact decide_eq_true h2) (M.o_pure ⟨s, by omega, by unfold Rx; rw [e0, e1]; exact ⟨hd, h2⟩⟩)
        · refine M.o_f (by rw [Bool.true_and]; exact decide_eq_false h2) (M.o_grd (gA2 (by omega) (by omega)) (M.o_pure ⟨rfl, fun a h => ?_⟩))
          by_cases e : a = s
          · rw [e]; unfold Rx; rw [e0, e1]; exact fun h => h2 h.2
          · exact hJ a (by omega)
      · have hd' : decide (can.getD (s * 13 + m) 0 < 1099511627776) = false := decide_eq_false hd
        rw [hd']
        refine M.o_bindE (a := 0) (M.i_opt (fun h => by cases h) (fun _ => rfl)) (M.o_grd (by simp) (M.o_bindE (a := 0) (M.i_opt (fun h => by cases h) (fun _ => rfl)) (M.o_grd (by simp) ?_)))
        refine M.o_f (by simp) (M.o_grd (gA2 (by omega) (by omega)) (M.o_pure ⟨rfl, fun a h => ?_⟩))
        by_cases e : a = s
        · rw [e]; unfold Rx; rw [e0]; exact fun h => hd h.1
        · exact hJ a (by omega)
    · rintro s ⟨rfl, hJ⟩
      simp only [m_level_survey_open_b4]
      refine M.o_f (by simp; omega) (M.o_pure fun a h0 h1 => ?_)
      have := hJ a.toNat (by omega)
      rwa [Int.toNat_of_nonneg h0] at this
  have no_of : (∃ x, LegOk ls x /\ ∃ a, (0 <= a /\ a < n) /\ Rx ls can a x) -> ¬ Agr ls := by
    rintro ⟨x, hx, a, ha, hR⟩ hA
    exact hW.agr_no hN hA ha hx hR
  unfold m_level_survey_open
  refine M.o_bind (P := fun y => match y with | .inl _ => ¬ Agr ls | .inr _ => Agr ls) ?_ (fun y hy => by
    rcases y with y | y
    · exact M.o_pure ⟨fun _ => hy, fun _ => rfl⟩
    · exact M.o_pure ⟨fun h => (by cases h), fun h => absurd hy h⟩)
  refine M.o_for (Int.toNat n) (fun m s => s = m /\ (∀ i b, i < ls.length -> sOf ls ⟨i, b⟩ < (m : Int) -> ∀ a, 0 <= a -> a < n -> ¬ Rx ls can a ⟨i, b⟩) /\ ∀ a : Nat, a < m -> ¬ rw_ can a a < 0) ?_ ?_ (s := 0) ⟨rfl, fun i b hi h => by have := ((ij (k := b) hi).ed.rng hN.rng).1; omega, fun a h => by omega⟩
  · rintro m s hmn ⟨rfl, h1, h2⟩
    simp only [m_level_survey_open_b6]
    refine M.o_t (by simp; omega) (M.o_bindE (a := (s : Int)) M.i_pure ?_)
    refine M.o_bind (legs_out (m := (s : Int)) (fun idx _ => ∀ i b, i < ls.length -> sOf ls ⟨i, b⟩ = (s : Int) -> 2 * i + b.toNat < idx -> ∀ a, 0 <= a -> a < n -> ¬ Rx ls can a ⟨i, b⟩) (fun _ => ¬ Agr ls) ?_ ?_ (s := ()) (fun i b _ _ h => by omega)) ?_
    · intro i b _ hi hs hJ
      refine M.o_mono (leg s i b hi hs) ?_
      rintro (x | x) hx
      · intro i' b' hi' hs' hlt
        by_cases e : 2 * i' + b'.toNat < 2 * i + b.toNat
        · exact hJ i' b' hi' hs' e
        · have hb2 : b.toNat <= 1 := by cases b <;> decide
          have hb3 : b'.toNat <= 1 := by cases b' <;> decide
          have e1 : i' = i := by omega
          subst e1
          have e2 : b' = b := by
            have : b'.toNat = b.toNat := by omega
            cases b <;> cases b' <;> simp_all
          subst e2
          exact hx
      · exact no_of ⟨_, ij hi, hx⟩
    · intro i b _ hi hs hJ i' b' hi' hs' hlt
      refine hJ i' b' hi' hs' ?_
      have hb2 : b.toNat <= 1 := by cases b <;> decide
      have hb3 : b'.toNat <= 1 := by cases b' <;> decide
      rcases Nat.lt_or_ge (2 * i' + b'.toNat) (2 * i + b.toNat) with h | h
      · exact h
      · exfalso
        have e1 : i' = i := by omega
        subst e1
        have e2 : b' = b := by
          have : b'.toNat = b.toNat := by omega
          cases b <;> cases b' <;> simp_all
        subst e2
        exact hs hs'
    · rintro (x | x) hx
      · refine M.o_grd (gA2 (by omega) (by omega)) ?_
        by_cases hd : rw_ can s s < 0
        · refine M.o_t (decide_eq_true (by rw [← rw_nat]; exact hd)) (M.o_pure fun hA => ?_)
          have := hW.agr_zero hN hA (a := (s : Int)) (by omega)
          omega
        · refine M.o_f (decide_eq_false (by rw [← rw_nat]; exact hd)) (M.o_grd (gA2 (by omega) (by omega)) (M.o_pure ⟨rfl, fun i b hi h => ?_, fun a h => ?_⟩))
          · by_cases e : sOf ls ⟨i, b⟩ < (s : Int)
            · exact h1 i b hi e
            · have hb2 : b.toNat <= 1 := by cases b <;> decide
              exact hx i b hi (by omega) (by omega)
          · by_cases e : a = s
            · rw [e]; exact hd
            · exact h2 a (by omega)
      · exact M.o_pure hx
  · rintro s ⟨rfl, h1, h2⟩
    simp only [m_level_survey_open_b6]
    refine M.o_f (by simp; omega) (M.o_pure ?_)
    obtain ⟨f, _, hF⟩ := hW.agr_of hN (fun a h0 h3 x hx => by
      obtain ⟨l, k⟩ := x
      have hx' := hx
      obtain ⟨l0, l1⟩ := hx
      dsimp only at l0 l1
      have e : l = ((l.toNat : Nat) : Int) := by omega
      rw [e] at hx' ⊢
      exact h1 l.toNat k (by omega) (by have := (hx'.ed.rng hN.rng).1; omega) a h0 h3) (fun a h0 h3 => by
      have := h2 a.toNat (by omega)
      rwa [Int.toNat_of_nonneg h0] at this)
    exact ⟨_, hF⟩
end Go.Proofs.Ytclhljenjphofaa
end
section
set_option maxRecDepth 100000
set_option maxHeartbeats 16000000
namespace Go.Nm
/-- A line, as it may be in a net. -/
def okLine (n : Int) (l : Line) : Bool := (((((decide (0 <= l.src) && decide (l.src <= n - 1)) && (decide (0 <= l.dst) && decide (l.dst <= n - 1))) && (l.src != l.dst)) && (decide (0 <= l.day) && decide (l.day <= 40000))) && (decide (-1000000 <= l.rise) && decide (l.rise <= 1000000))) && (decide (0 <= l.err) && decide (l.err <= 10000))
def chkE (n : Int) (ls : List Line) : Int := bif (!(decide (1 <= n) && decide (n <= 12))) || decide (30 < (ls.length : Int)) then 3 else bif !(ls.all (okLine n)) then 20 else 0
theorem okLine_iff {n : Int} {l : Line} : okLine n l = true ↔ ((((((0 <= l.src /\ l.src <= n - 1) /\ (0 <= l.dst /\ l.dst <= n - 1)) /\ l.src ≠ l.dst) /\ (0 <= l.day /\ l.day <= 40000)) /\ (-1000000 <= l.rise /\ l.rise <= 1000000)) /\ (0 <= l.err /\ l.err <= 10000)) := by
  unfold okLine
  simp only [Bool.and_eq_true, decide_eq_true_eq, bne_iff_ne, ne_eq]
theorem chk_ok {n : Int} {ls : List Line} : chkE n ls = 0 ↔ NetOk n ls := by
  unfold chkE
  cases h1 : (!(decide (1 <= n) && decide (n <= 12))) || decide (30 < (ls.length : Int)) with
  | true =>
    simp only [Bool.or_eq_true, Bool.not_eq_true', Bool.and_eq_false_iff, decide_eq_false_iff_not, decide_eq_true_eq] at h1
    refine ⟨fun h => by simp at h, fun h => ?_⟩
    have := h.marks
    have := h.few
    omega
  | false =>
    simp only [Bool.or_eq_false_iff, Bool.not_eq_false', Bool.and_eq_true, decide_eq_false_iff_not, decide_eq_true_eq] at h1
    cases h2 : ls.all (okLine n) with
    | true =>
      rw [List.all_eq_true] at h2
      have h3 := fun l hl => okLine_iff.1 (h2 l hl)
      exact ⟨fun _ => ⟨h1.1, by omega, fun l hl => by have := h3 l hl; omega, fun l hl => (h3 l hl).1.1.1.2, fun l hl => (h3 l hl).1.1.2, fun l hl => (h3 l hl).1.2, fun l hl => (h3 l hl).2⟩, fun _ => rfl⟩
    | false =>
      rw [List.all_eq_false] at h2
      obtain ⟨l, hl, h3⟩ := h2
      refine ⟨fun h => by simp at h, fun h => absurd (okLine_iff.2 ?_) h3⟩
      have := h.rng l hl
      exact ⟨⟨⟨⟨⟨⟨this.1.1, by omega⟩, ⟨this.2.1, by omega⟩⟩, h.ne l hl⟩, h.day l hl⟩, h.rise l hl⟩, h.err l hl⟩
/-- What is said of two marks. -/
structure Btw (ls : List Line) (a b : Int) (r : Int × Int × Int) : Prop where
  no : ¬ Agr ls -> r = (0, 0, 7)
  far : Agr ls -> ¬ Tied ls a b -> r = (0, 0, 5)
  yes : Agr ls -> Tied ls a b -> r.2.2 = 0 /\ IsDist ls a b r.2.1 /\ IsDist ls b a (-r.1)
end Go.Nm
namespace Go.Proofs.Ytclhljenjphofaa
open Go Go.Nm
variable {ls : List Line} {n a : Int}
theorem in_ends (x lo hi : Int) : (m_level_in x lo hi).Ends (decide (lo <= x) && decide (x <= hi)) := M.i_pure
theorem index_line {f : Line -> M Bool} {q : Line -> Bool} (h : ∀ x, x ∈ ls -> (f x).Ends (q x)) : (m_slices_IndexFunc_level_Line ls f).Out (fun r => decide (0 <= r) = ls.any q) := by
  unfold m_slices_IndexFunc_level_Line
  refine M.o_bind (P := fun y => match y with | .inl r => decide (0 <= r) = ls.any q | .inr _ => ls.any q = false) ?_ (fun y hy => by
    rcases y with y | y
    · exact M.o_pure hy
    · exact M.o_pure (by rw [hy]; rfl))
  refine M.o_for ls.length (fun i s => s = i /\ (ls.take i).any q = false) ?_ ?_ (s := 0) ⟨rfl, by simp⟩
  · rintro i s hi ⟨rfl, hJ⟩
    simp only [m_slices_IndexFunc_level_Line_b0]
    refine M.o_t (by simpa using hi) (M.o_grd (by simpa using hi) (M.o_bindE (h (ls.getD s default) (by rw [getD_el ls hi]; exact List.getElem_mem hi)) (M.o_if (fun hb => ?_) (fun hb => ?_))))
    · refine M.o_pure ?_
      dsimp only
      rw [show ls.any q = true from List.any_eq_true.2 ⟨_, by rw [getD_el ls hi]; exact List.getElem_mem hi, hb⟩]
      exact decide_eq_true (by omega)
    · refine M.o_pure ⟨rfl, ?_⟩
      rw [← take_succ_D ls s hi default, List.any_append, hJ]
      simp only [List.any_cons, List.any_nil, Bool.or_false, Bool.false_or]
      exact hb
  · rintro s ⟨rfl, hJ⟩
    simp only [m_slices_IndexFunc_level_Line_b0]
    rw [List.take_length] at hJ
    exact M.o_f (by simp) (M.o_pure hJ)
theorem every_line {so : Line -> M Bool} {p : Line -> Bool} (h : ∀ x, x ∈ ls -> (so x).Ends (p x)) : (m_level_every_level_Line ls so).Ends (ls.all p) := by
  unfold m_level_every_level_Line m_slices_ContainsFunc_level_Line
  obtain ⟨r, h1, h2⟩ := index_line (ls := ls) (f := fun x => m_level_every_level_Line__1 x so) (q := fun x => !(p x)) (fun x hx => by unfold m_level_every_level_Line__1; exact M.i_bind (h x hx) M.i_pure)
  refine M.i_bind (M.i_bind h1 M.i_pure) ?_
  rw [h2, List.any_eq_not_all_not]
  simp only [Bool.not_not]
  exact M.i_pure
theorem check_ends (n : Int) (ls : List Line) : (m_level_Check n ls).Ends (chkE n ls) := by
  unfold m_level_Check chkE
  refine M.i_bind (in_ends _ _ _) (M.i_if (fun hb => ?_) (fun hb => ?_))
  · rw [hb]; exact M.i_pure
  · rw [hb]
    simp only [Bool.or_eq_false_iff, Bool.not_eq_false', Bool.and_eq_true, decide_eq_false_iff_not, decide_eq_true_eq] at hb
    refine M.i_bind (every_line (p := okLine n) fun l _ => ?_) (M.i_if (fun h2 => by rw [h2]; exact M.i_pure) (fun h2 => by rw [h2]; exact M.i_pure))
    have mk : ∀ x : Int, (m_level_Check_1 x n ls).Ends (decide (0 <= x) && decide (x <= n - 1)) := fun x => by
      unfold m_level_Check_1
      exact M.i_grd (gA2 (by omega) (by omega)) (M.i_bind (in_ends _ _ _) M.i_pure)
    unfold m_level_Check_2
    have opt : ∀ {c : Bool} {m : M Bool} {b : Bool}, m.Ends b -> (M.opt c m false).Ends (c && b) := fun {c m b} h => M.i_opt (fun e => by rw [e, Bool.true_and]; exact h) (fun e => by rw [e]; rfl)
    refine M.i_bind (mk l.src) (M.i_bind (opt (mk l.dst)) (M.i_bind (opt (in_ends _ _ _)) (M.i_bind (opt (in_ends _ _ _)) (M.i_bind (opt (in_ends _ _ _)) ?_))))
    have e : okLine n l = _ := rfl
    unfold okLine
    generalize (decide (0 <= l.src) && decide (l.src <= n - 1)) = b1
    generalize (decide (0 <= l.dst) && decide (l.dst <= n - 1)) = b2
    generalize (l.src != l.dst) = b3
    generalize (decide (0 <= l.day) && decide (l.day <= 40000)) = b4
    generalize (decide (-1000000 <= l.rise) && decide (l.rise <= 1000000)) = b5
    generalize (decide (0 <= l.err) && decide (l.err <= 10000)) = b6
    cases b1 <;> cases b2 <;> cases b3 <;> cases b4 <;> cases b5 <;> cases b6 <;> exact M.i_pure
theorem opened_out (hN : NetOk n ls) : (m_level_opened n ls).Out (fun y => ∃ can by_, y = .inr (n, can, by_, 0) /\ Wkd ls n can by_) := by
  unfold m_level_opened
  refine M.o_bindE (check_ends n ls) ?_
  rw [chk_ok.2 hN]
  refine M.o_f (by decide) (M.o_bind (worked_out hN) ?_)
  rintro ⟨r0, c, b⟩ ⟨rfl, hW⟩
  exact M.o_pure ⟨c, b, rfl, hW⟩
theorem agrees_out (hN : NetOk n ls) : (m_level_Agrees n ls).Out (fun r => r.2 = 0 /\ (r.1 = true ↔ Agr ls)) := by
  unfold m_level_Agrees
  refine M.o_bind (opened_out hN) ?_
  rintro y ⟨c, b, rfl, hW⟩
  dsimp only
  refine M.o_f (by decide) (M.o_bind (open_out hN hW) ?_)
  intro r hr
  refine M.o_pure ⟨rfl, ?_⟩
  dsimp only
  rw [Bool.not_eq_true']
  constructor
  · intro h
    refine Classical.byContradiction fun hc => ?_
    rw [hr.2 hc] at h
    cases h
  · intro h
    cases hc : r with
    | false => rfl
    | true => exact absurd h (hr.1 hc)
theorem between_out (hN : NetOk n ls) {f t : Int} (hf : 0 <= f /\ f < n) (ht : 0 <= t /\ t < n) : (m_level_Between n ls f t).Out (Btw ls f t) := by
  have hm := hN.marks
  unfold m_level_Between
  refine M.o_bind (P := fun y => ∃ can by_ e, y = .inr (n, can, by_, e) /\ Wkd ls n can by_ /\ (¬ Agr ls -> e = 7) /\ (Agr ls -> e = if rw_ can f t = 1099511627776 then 5 else 0)) ?_ ?_
  · unfold m_level_asked
    refine M.o_bindE (check_ends n ls) ?_
    rw [chk_ok.2 hN]
    refine M.o_f (by decide) (M.o_grd (gA2 (by omega) (by omega)) (M.o_bindE (in_ends _ _ _) ?_))
    rw [show (decide (0 <= f) && decide (f <= n - 1)) = true from gA2 (by omega) (by omega)]
    refine M.o_bindE (a := true) (M.i_opt (fun _ => by rw [← show (decide (0 <= t) && decide (t <= n - 1)) = true from gA2 (by omega) (by omega)]; exact in_ends _ _ _) (fun h => by cases h)) ?_
    refine M.o_f (by simp) ?_
    refine M.o_bind (P := fun y => ∃ can by_ e, y = .inr (n, can, by_, e) /\ Wkd ls n can by_ /\ (¬ Agr ls -> e = 7) /\ (Agr ls -> e = 0)) ?_ ?_
    · unfold m_level_agreed
      refine M.o_bind (opened_out hN) ?_
      rintro y ⟨c, b, rfl, hW⟩
      dsimp only
      refine M.o_bind (P := fun r => r = true ↔ ¬ Agr ls) (by
        obtain ⟨r, h1, h2⟩ := open_out hN hW
        exact ⟨r, M.i_opt (fun _ => h1) (fun h => by simp at h), h2⟩) ?_
      intro r hr
      cases r with
      | true => exact M.o_t rfl (M.o_pure ⟨c, b, 7, rfl, hW, fun _ => rfl, fun h => absurd h (hr.1 rfl)⟩)
      | false => exact M.o_f rfl (M.o_pure ⟨c, b, 0, rfl, hW, fun h => absurd (hr.2 h) (by decide), fun _ => rfl⟩)
    · rintro y ⟨c, b, e, rfl, hW, h1, h2⟩
      dsimp only
      refine M.o_grd (gOr2 (by omega) (by omega)) (M.o_grd (gOr2 (by omega) (by omega)) ?_)
      by_cases hA : Agr ls
      · have := h2 hA
        subst this
        by_cases e : rw_ c f t = 1099511627776
        · exact M.o_t (by unfold rw_ at e; rw [e]; rfl) (M.o_pure ⟨c, b, 5, rfl, hW, fun h => absurd hA h, fun _ => by rw [if_pos e]⟩)
        · exact M.o_f (by unfold rw_ at e; simpa using e) (M.o_pure ⟨c, b, 0, rfl, hW, fun h => absurd hA h, fun _ => by rw [if_neg e]⟩)
      · have := h1 hA
        subst this
        exact M.o_f (by simp) (M.o_pure ⟨c, b, 7, rfl, hW, fun _ => rfl, fun h => absurd h hA⟩)
  · rintro y ⟨c, b, e, rfl, hW, h1, h2⟩
    dsimp only
    by_cases hA : Agr ls
    · have hD := hW.done hN hA hf
      have hD2 := hW.done hN hA ht
      by_cases e5 : rw_ c f t = 1099511627776
      · have := h2 hA
        rw [if_pos e5] at this
        subst this
        refine M.o_t (by decide) (M.o_pure ⟨fun h => absurd hA h, fun _ _ => rfl, fun _ hT => ?_⟩)
        have := hD.tied t ht.1 ht.2 hT
        omega
      · have := h2 hA
        rw [if_neg e5] at this
        subst this
        have hlt := hD.far t ht.1 ht.2 e5
        have d1 := hD.dist t ht.1 ht.2 hlt
        have hlt2 := hD2.tied f hf.1 hf.2 d1.tied.symm
        have d2 := hD2.dist f hf.1 hf.2 hlt2
        have b1 := (hW.row t ht.1 ht.2).bf.low f hf.1 hf.2
        unfold rw_ at hlt2 b1
        refine M.o_f (by decide) (M.o_grd (gA2 (by omega) (by omega)) (M.o_grd (gA2 (by omega) (by omega)) (M.o_grd (gA2 (by omega) (by omega)) (M.o_pure ⟨fun h => absurd hA h, fun _ h => absurd d1.tied h, fun _ _ => ⟨rfl, d1, ?_⟩⟩))))
        dsimp only
        rw [Int.neg_neg]
        exact d2
    · have := h1 hA
      subst this
      exact M.o_t (by decide) (M.o_pure ⟨fun _ => rfl, fun h => absurd h hA, fun h => absurd h hA⟩)
end Go.Proofs.Ytclhljenjphofaa
end
namespace Go.Nm
variable {ls : List Line} {N : Nat}
/-- Where the rounds stand: all before (a, b) of round k are done. -/
structure Rd3 (N : Nat) (ls : List Line) (T0 : Nat -> Nat -> Int) (k a b : Nat) (l : List (List Int)) : Prop where
  sq : Sq N l
  lo : ∀ x y, x < N -> y < N -> -1000000000000 <= tb l x y /\ tb l x y <= 1000000000000
  dg : ∀ x, x < N -> tb l x x <= 0
  sd : ∀ h, Feas ls h -> ∀ x y : Nat, x < N -> y < N -> tb l x y < 1000000000000 -> h y - h x <= tb l x y
  td : ∀ x y : Nat, x < N -> y < N -> tb l x y < 1000000000000 -> Tied ls x y
  go : (∃ x, x < N /\ tb l x x < 0) ∨ ∃ T, RT N k T0 T /\ (k < N -> 0 <= T k k) /\ ∀ x y, x < N -> y < N -> tb l x y = if x < a ∨ (x = a /\ y < b) then FT k T x y else T x y
theorem Rd3.up {T0 : Nat -> Nat -> Int} {k a b : Nat} {l : List (List Int)} (h : Rd3 N ls T0 k a b l) (hN : N <= 12) (hk : k < N) (ha : a < N) (hb : b < N) : Rd3 N ls T0 k a (b + 1) (up k a b l) := by
  have t := fun i j => tb_up (k := k) h.sq ha hb i j
  have b1 := h.lo a b ha hb
  have b2 := h.lo a k ha hk
  have b3 := h.lo k b hk hb
  refine ⟨up_sq h.sq ha, fun x y hx hy => ?_, fun x hx => ?_, fun f hf x y hx hy => ?_, fun x y hx hy => ?_, ?_⟩
  · rw [t]
    have := h.lo x y hx hy
    split <;> omega
  · rw [t]
    have := h.dg x hx
    split
    · rename_i c
      obtain ⟨rfl, rfl, -⟩ := c
      omega
    · exact this
  · rw [t]
    split
    · rename_i c
      obtain ⟨rfl, rfl, c1, c2⟩ := c
      have e1 := h.sd f hf x k hx hk c1
      have e2 := h.sd f hf k y hk hy c2
      have e3 := h.sd f hf x y hx hy
      intro hlt
      omega
    · exact h.sd f hf x y hx hy
  · rw [t]
    split
    · rename_i c
      obtain ⟨rfl, rfl, c1, c2⟩ := c
      exact fun _ => (h.td x k hx hk c1).trans (h.td k y hk hy c2)
    · exact h.td x y hx hy
  · rcases h.go with ⟨x, hx, hn⟩ | ⟨T, hT, hp, hE⟩
    · refine .inl ⟨x, hx, ?_⟩
      rw [t]
      have := h.lo x x hx hx
      split
      · rename_i c
        obtain ⟨rfl, rfl, -⟩ := c
        omega
      · exact hn
    · have hp := hp hk
      refine .inr ⟨T, hT, fun _ => hp, fun x y hx hy => ?_⟩
      have e1 : tb l a k = T a k := by
        rw [hE a k ha hk]
        split
        · exact FT_col hp
        · rfl
      have e2 : tb l k b = T k b := by
        rw [hE k b hk hb]
        split
        · exact FT_row hp
        · rfl
      have e3 : tb l a b = T a b := by
        rw [hE a b ha hb, if_neg (by omega)]
      have hn := (hT.next hk hN hp).lo a b ha hb
      have hbd := bd_le (k + 1) (by omega)
      rw [t, e1, e2, e3]
      by_cases c : x = a /\ y = b
      · obtain ⟨rfl, rfl⟩ := c
        rw [if_pos (show x < x ∨ (x = x /\ y < y + 1) by omega)]
        by_cases c2 : T x k < 1000000000000 /\ T k y < 1000000000000
        · rw [if_pos ⟨rfl, rfl, c2⟩]
          unfold FT at hn ⊢
          rw [if_pos c2] at hn ⊢
          omega
        · rw [if_neg (fun h => c2 h.2.2), e3]
          unfold FT
          rw [if_neg c2]
      · rw [if_neg (fun h => c ⟨h.1, h.2.1⟩), hE x y hx hy]
        by_cases c3 : x < a ∨ (x = a /\ y < b)
        · rw [if_pos c3, if_pos (by omega)]
        · rw [if_neg c3, if_neg (by omega)]
theorem Rd3.row {T0 : Nat -> Nat -> Int} {k a : Nat} {l : List (List Int)} (h : Rd3 N ls T0 k a N l) : Rd3 N ls T0 k (a + 1) 0 l := by
  refine ⟨h.sq, h.lo, h.dg, h.sd, h.td, ?_⟩
  rcases h.go with g | ⟨T, hT, hp, hE⟩
  · exact .inl g
  · refine .inr ⟨T, hT, hp, fun x y hx hy => ?_⟩
    rw [hE x y hx hy]
    by_cases c : x < a ∨ (x = a /\ y < N)
    · rw [if_pos c, if_pos (by omega)]
    · rw [if_neg c, if_neg (by omega)]
theorem Rd3.rnd {T0 : Nat -> Nat -> Int} {k : Nat} {l : List (List Int)} (h : Rd3 N ls T0 k N 0 l) (hN : N <= 12) (hk : k < N) : Rd3 N ls T0 (k + 1) 0 0 l := by
  refine ⟨h.sq, h.lo, h.dg, h.sd, h.td, ?_⟩
  rcases h.go with g | ⟨T, hT, hp, hE⟩
  · exact .inl g
  · have hE' : ∀ x y, x < N -> y < N -> tb l x y = FT k T x y := fun x y hx hy => by rw [hE x y hx hy, if_pos (by omega)]
    by_cases c : k + 1 < N /\ FT k T (k + 1) (k + 1) < 0
    · exact .inl ⟨k + 1, c.1, by rw [hE' _ _ c.1 c.1]; exact c.2⟩
    · refine .inr ⟨FT k T, hT.next hk hN (hp hk), fun h1 => by omega, fun x y hx hy => ?_⟩
      rw [hE' x y hx hy, if_neg (by omega)]
/-- The table at the start. -/
structure Ini (N : Nat) (ls : List Line) (T : Nat -> Nat -> Int) : Prop where
  le : ∀ (a b : Nat) c, a < N -> b < N -> Ed ls a b c -> T a b <= c
  ex : ∀ a b : Nat, a < N -> b < N -> T a b = 1000000000000 ∨ (a = b /\ T a b = 0) ∨ Ed ls a b (T a b)
  dg : ∀ a, a < N -> T a a = 0
theorem Rd3.start (hN : NetOk N ls) {T : Nat -> Nat -> Int} (h : Ini N ls T) {l : List (List Int)} (hs : Sq N l) (he : ∀ a b, a < N -> b < N -> tb l a b = T a b) : Rd3 N ls T 0 0 0 l := by
  have rng : ∀ a b : Nat, a < N -> b < N -> -1010000 <= T a b /\ (T a b = 1000000000000 ∨ T a b <= 1010000) := fun a b ha hb => by
    rcases h.ex a b ha hb with h1 | ⟨-, h1⟩ | h1
    · omega
    · omega
    · have := hN.ed _ _ _ h1; omega
  refine ⟨hs, fun x y hx hy => ?_, fun x hx => ?_, fun f hf x y hx hy hlt => ?_, fun x y hx hy hlt => ?_, .inr ⟨T, ⟨fun a b ha hb => (rng a b ha hb).1, fun a b ha hb => (rng a b ha hb).2, fun a b j _ _ _ hj => by omega, fun a b _ _ => Int.le_refl _⟩, fun h0 => ?_, fun x y hx hy => ?_⟩⟩
  · rw [he x y hx hy]; have := rng x y hx hy; omega
  · rw [he x x hx hx, h.dg x hx]; exact Int.le_refl _
  · rw [he x y hx hy] at hlt ⊢
    rcases h.ex x y hx hy with h1 | ⟨rfl, h1⟩ | h1
    · omega
    · omega
    · exact hf.ed h1
  · rw [he x y hx hy] at hlt
    rcases h.ex x y hx hy with h1 | ⟨rfl, h1⟩ | h1
    · omega
    · exact .refl _ _
    · exact .ed h1
  · rw [h.dg 0 h0]; exact Int.le_refl _
  · rw [he x y hx hy, if_neg (by omega)]
end Go.Nm
namespace Go.Proofs.Ytclhljenjphofaa
open Go Go.Nm
variable {ls : List Line} {n : Int} {N : Nat}
theorem ref_check (n : Int) (ls : List Line) (hl : ls.length <= 1000000) : (m_nilometerref01_Check n ls).Ends (chkE n ls) := by
  have out : ∀ x lo hi, (m_nilometerref01_outside x lo hi).Ends (!(decide (lo <= x) && decide (x <= hi))) := fun x lo hi => by
    unfold m_nilometerref01_outside
    have e : (decide (x < lo) || decide (hi < x)) = !(decide (lo <= x) && decide (x <= hi)) := by
      by_cases h1 : lo <= x <;> by_cases h2 : x <= hi <;> simp [h1, h2] <;> omega
    rw [← e]
    exact M.i_pure
  unfold m_nilometerref01_Check chkE
  have e0 : ((decide (n < 1)) || (decide (12 < n)) || (decide (30 < (ls.length : Int)))) = ((!(decide (1 <= n) && decide (n <= 12))) || decide (30 < (ls.length : Int))) := by
    congr 1
    by_cases h1 : 1 <= n <;> by_cases h2 : n <= 12 <;> simp [h1, h2] <;> omega
  rw [e0]
  refine M.i_if (fun hb => by rw [hb]; exact M.i_pure) (fun hb => ?_)
  rw [hb]
  simp only [Bool.or_eq_false_iff, Bool.not_eq_false', Bool.and_eq_true, decide_eq_false_iff_not, decide_eq_true_eq] at hb
  have o : (M.iter (m_nilometerref01_Check_b0 n ls) 0).Out (fun y => match y with | .inl _ => ls.all (okLine n) = false | .inr _ => ls.all (okLine n) = true) := by
    refine M.o_for ls.length (fun i s => s = i /\ (ls.take i).all (okLine n) = true) ?_ ?_ ⟨rfl, by simp⟩
    · rintro i s hi ⟨rfl, hJ⟩
      simp only [m_nilometerref01_Check_b0]
      have hm : ls.getD s default ∈ ls := by rw [getD_el ls hi]; exact List.getElem_mem hi
      refine M.o_t (by simpa using hi) (M.o_grd (by simpa using hi) (M.o_grd (gA2 (by omega) (by omega)) ?_))
      generalize hl : ls.getD s default = l at *
      have opt : ∀ {c : Bool} {x lo hi : Int}, (M.opt c (m_nilometerref01_outside x lo hi) false).Ends (c && !(decide (lo <= x) && decide (x <= hi))) := fun {c x lo hi} => M.i_opt (fun e => by rw [e, Bool.true_and]; exact out _ _ _) (fun e => by rw [e]; rfl)
      refine M.o_bindE (out _ _ _) (M.o_bindE opt (M.o_bindE opt (M.o_bindE opt (M.o_bindE opt ?_))))
      have e : okLine n l = ((((((decide (0 <= l.src) && decide (l.src <= n - 1)) && (decide (0 <= l.dst) && decide (l.dst <= n - 1))) && (!(l.src == l.dst))) && (decide (0 <= l.day) && decide (l.day <= 40000))) && (decide (-1000000 <= l.rise) && decide (l.rise <= 1000000))) && (decide (0 <= l.err) && decide (l.err <= 10000))) := rfl
      generalize (decide (0 <= l.src) && decide (l.src <= n - 1)) = b1 at *
      generalize (decide (0 <= l.dst) && decide (l.dst <= n - 1)) = b2 at *
      generalize (l.src == l.dst) = b3 at *
      generalize (decide (0 <= l.day) && decide (l.day <= 40000)) = b4 at *
      generalize (decide (-1000000 <= l.rise) && decide (l.rise <= 1000000)) = b5 at *
      generalize (decide (0 <= l.err) && decide (l.err <= 10000)) = b6 at *
      refine M.o_if (fun hb => M.o_pure ?_) (fun hb => M.o_pure ⟨rfl, ?_⟩)
      · refine List.all_eq_false.2 ⟨l, hm, ?_⟩
        rw [e]
        cases b1 <;> cases b2 <;> cases b3 <;> cases b4 <;> cases b5 <;> cases b6 <;> simp at hb ⊢
      · rw [← take_succ_D ls s hi default, List.all_append, hJ, hl]
        simp only [List.all_cons, List.all_nil, Bool.and_true, Bool.true_and]
        rw [e]
        cases b1 <;> cases b2 <;> cases b3 <;> cases b4 <;> cases b5 <;> cases b6 <;> simp at hb ⊢
    · rintro s ⟨rfl, hJ⟩
      rw [List.take_length] at hJ
      simp only [m_nilometerref01_Check_b0]
      exact M.o_f (by simp) (M.o_pure hJ)
  obtain ⟨y, h1, h2⟩ := o
  refine M.i_bind h1 ?_
  rcases y with u | u
  · dsimp only at h2 ⊢
    rw [h2]; exact M.i_pure
  · dsimp only at h2 ⊢
    rw [h2]; exact M.i_pure
/-- The least of a start and of all lines between two marks. -/
theorem most_out (hN : NetOk n ls) (a b : Nat) {z : Int} (hz : -1000000000000 <= z /\ z <= 1000000000000) {body : (Int × Nat) -> M ((Int × Nat) ⊕ Int)} (hbody : body = m_nilometerref01_table_b19 ls a b ∨ body = m_nilometerref01_table_b18 ls a b) :
    (M.iter body (z, 0)).Out (fun r => (∀ c, Ed ls a b c -> r <= c) /\ (r = z ∨ Ed ls a b r) /\ r <= z) := by
  have same : m_nilometerref01_table_b18 ls a b = m_nilometerref01_table_b19 ls a b := rfl
  have hbody : body = m_nilometerref01_table_b19 ls a b := by rcases hbody with h | h; exact h; exact h.trans same
  subst hbody
  refine M.o_for ls.length (fun i st => st.2 = i /\ (∀ j : Nat, j < i -> ∀ c, Ed [ls.getD j default] a b c -> st.1 <= c) /\ (st.1 = z ∨ Ed ls a b st.1) /\ st.1 <= z) ?_ ?_ (s := (z, 0)) ⟨rfl, fun j hj => by omega, .inl rfl, Int.le_refl _⟩
  · rintro i ⟨m, s⟩ hi ⟨e, h1, h2, h3⟩
    dsimp only at hi h1 h2 h3 e
    subst e
    have hm : ls.getD s default ∈ ls := by rw [getD_el ls hi]; exact List.getElem_mem hi
    have hr := hN.rise _ hm
    have he := hN.err _ hm
    have hne := hN.ne _ hm
    simp only [m_nilometerref01_table_b19]
    refine M.o_t (by simpa using hi) (M.o_grd (by simpa using hi) ?_)
    generalize hl : ls.getD s default = l at *
    have fin : ∀ m' : Int, m' <= m -> (∀ c, Ed [l] (a : Int) b c -> m' <= c) -> (m' = m ∨ Ed ls a b m') -> (∀ j : Nat, j < s + 1 -> ∀ c, Ed [ls.getD j default] (a : Int) b c -> m' <= c) /\ (m' = z ∨ Ed ls a b m') /\ m' <= z := by
      intro m' g1 g2 g3
      refine ⟨fun j hj c hc => ?_, ?_, by omega⟩
      · by_cases e : j = s
        · rw [e, hl] at hc; exact g2 c hc
        · have := h1 j (by omega) c hc; omega
      · rcases g3 with g3 | g3
        · rw [g3]; exact h2
        · exact .inr g3
    refine M.o_if (fun c1 => ?_) (fun c1 => ?_)
    · simp only [Bool.and_eq_true, beq_iff_eq] at c1
      refine M.o_grd (gA2 (by omega) (by omega)) (M.o_f ?_ (M.o_pure ⟨rfl, fin _ (by omega) ?_ ?_⟩))
      · rw [Bool.and_eq_false_iff, beq_eq_false_iff_ne, beq_eq_false_iff_ne]
        by_cases e : l.src = (b : Int)
        · exact .inr (fun e2 => hne (by omega))
        · exact .inl e
      · rintro c ⟨l', hl', ⟨e1, e2, rfl⟩ | ⟨e1, e2, rfl⟩⟩
        · obtain rfl : l' = l := by simpa using hl'
          omega
        · obtain rfl : l' = l := by simpa using hl'
          omega
      · by_cases e : m <= l.rise + l.err
        · exact .inl (by omega)
        · refine .inr ⟨l, hm, .inl ⟨c1.1, c1.2, by omega⟩⟩
    · have c1 : ¬ (l.src = (a : Int) /\ l.dst = (b : Int)) := fun h => by rw [h.1, h.2] at c1; simp at c1
      refine M.o_if (fun c2 => ?_) (fun c2 => ?_)
      · simp only [Bool.and_eq_true, beq_iff_eq] at c2
        refine M.o_grd (gA2 (by omega) (by omega)) (M.o_pure ⟨rfl, fin _ (by omega) ?_ ?_⟩)
        · rintro c ⟨l', hl', ⟨e1, e2, rfl⟩ | ⟨e1, e2, rfl⟩⟩
          · obtain rfl : l' = l := by simpa using hl'
            omega
          · obtain rfl : l' = l := by simpa using hl'
            omega
        · by_cases e : m <= l.err - l.rise
          · exact .inl (by omega)
          · refine .inr ⟨l, hm, .inr ⟨c2.2, c2.1, by omega⟩⟩
      · have c2 : ¬ (l.src = (b : Int) /\ l.dst = (a : Int)) := fun h => by rw [h.1, h.2] at c2; simp at c2
        refine M.o_pure ⟨rfl, fin _ (Int.le_refl _) ?_ (.inl rfl)⟩
        rintro c ⟨l', hl', ⟨e1, e2, rfl⟩ | ⟨e1, e2, rfl⟩⟩
        · obtain rfl : l' = l := by simpa using hl'
          exact absurd ⟨e1, e2⟩ c1
        · obtain rfl : l' = l := by simpa using hl'
          exact absurd ⟨e2, e1⟩ c2
  · rintro ⟨m, s⟩ ⟨e, h1, h2, h3⟩
    dsimp only at h1 h2 h3 e
    subst e
    simp only [m_nilometerref01_table_b19]
    refine M.o_f (by simp) (M.o_pure ⟨fun c hc => ?_, h2, h3⟩)
    obtain ⟨l, hl, h⟩ := hc
    obtain ⟨j, hj, rfl⟩ := mem_getD hl default
    exact h1 j hj c ⟨_, List.mem_cons_self .., h⟩
theorem no_self (hN : NetOk n ls) {a : Int} {c : Int} (h : Ed ls a a c) : False := by
  obtain ⟨l, hl, ⟨e1, e2, -⟩ | ⟨e1, e2, -⟩⟩ := h
  · exact hN.ne l hl (by omega)
  · exact hN.ne l hl (by omega)
theorem tab0_out (hN : NetOk N ls) : (M.iter (m_nilometerref01_table_b21 N ls) (0, [])).Out (fun y => Sq N y.2 /\ Ini N ls (tb y.2)) := by
  have hm := hN.marks
  have row : ∀ a : Nat, a < N -> (M.iter (m_nilometerref01_table_b20 N ls a) (0, [])).Out (fun y => y.2.length = N /\ ∀ b : Nat, b < N -> (∀ c, Ed ls a b c -> y.2.getD b 0 <= c) /\ (y.2.getD b 0 = 1000000000000 ∨ (a = b /\ y.2.getD b 0 = 0) ∨ Ed ls a b (y.2.getD b 0)) /\ (a = b -> y.2.getD b 0 = 0)) := by
    intro a ha
    refine M.o_for N (fun i st => st.1 = i /\ st.2.length = i /\ ∀ b : Nat, b < i -> (∀ c, Ed ls a b c -> st.2.getD b 0 <= c) /\ (st.2.getD b 0 = 1000000000000 ∨ (a = b /\ st.2.getD b 0 = 0) ∨ Ed ls a b (st.2.getD b 0)) /\ (a = b -> st.2.getD b 0 = 0)) ?_ ?_ (s := (0, [])) ⟨rfl, rfl, fun b hb => by omega⟩
    · rintro i ⟨s, l⟩ hi ⟨e, hl, hJ⟩
      dsimp only at hi hl hJ e
      subst e
      simp only [m_nilometerref01_table_b20]
      have put : ∀ x : Int, ((∀ c, Ed ls a s c -> x <= c) /\ (x = 1000000000000 ∨ (a = s /\ x = 0) ∨ Ed ls a s x) /\ (a = s -> x = 0)) -> ∀ b : Nat, b < s + 1 -> (∀ c, Ed ls a b c -> (l ++ [x]).getD b 0 <= c) /\ ((l ++ [x]).getD b 0 = 1000000000000 ∨ (a = b /\ (l ++ [x]).getD b 0 = 0) ∨ Ed ls a b ((l ++ [x]).getD b 0)) /\ (a = b -> (l ++ [x]).getD b 0 = 0) := by
        intro x hx b hb
        by_cases e : b = s
        · have : (l ++ [x]).getD b 0 = x := by rw [e, ← hl]; simp [List.getD_eq_getElem?_getD]
          rw [this, e]
          exact hx
        · have : (l ++ [x]).getD b 0 = l.getD b 0 := by rw [List.getD_eq_getElem?_getD, List.getElem?_append_left (by omega), ← List.getD_eq_getElem?_getD]
          rw [this]
          exact hJ b (by omega)
      refine M.o_t (decide_eq_true (by omega)) (M.o_if (fun c => ?_) (fun c => ?_))
      · have c : a = s := by have := beq_iff_eq.1 c; omega
        refine M.o_bind (most_out hN a s (by omega) (.inr rfl)) ?_
        rintro x ⟨x1, x2, x3⟩
        refine M.o_grdD (by simp only [List.length_cons, List.length_nil]; omega) (M.o_grd (gA2 (by omega) (by omega)) (M.o_pure ⟨rfl, by simp [hl], put x ⟨x1, ?_, fun _ => ?_⟩⟩))
        · rcases x2 with x2 | x2
          · exact .inr (.inl ⟨c, x2⟩)
          · exact .inr (.inr x2)
        · rcases x2 with x2 | x2
          · exact x2
          · rw [c] at x2; exact (no_self hN x2).elim
      · have c : a ≠ s := by have := beq_eq_false_iff_ne.1 c; omega
        refine M.o_bind (most_out hN a s (by omega) (.inl rfl)) ?_
        rintro x ⟨x1, x2, x3⟩
        refine M.o_grdD (by simp only [List.length_cons, List.length_nil]; omega) (M.o_grd (gA2 (by omega) (by omega)) (M.o_pure ⟨rfl, by simp [hl], put x ⟨x1, ?_, fun e => absurd e c⟩⟩))
        rcases x2 with x2 | x2
        · exact .inl x2
        · exact .inr (.inr x2)
    · rintro ⟨s, l⟩ ⟨e, hl, hJ⟩
      dsimp only at hl hJ e
      subst e
      simp only [m_nilometerref01_table_b20]
      exact M.o_f (decide_eq_false (by omega)) (M.o_pure ⟨hl, hJ⟩)
  refine M.o_mono (P := fun y => y.2.length = N /\ ∀ a : Nat, a < N -> (y.2.getD a []).length = N /\ ∀ b : Nat, b < N -> (∀ c, Ed ls a b c -> tb y.2 a b <= c) /\ (tb y.2 a b = 1000000000000 ∨ (a = b /\ tb y.2 a b = 0) ∨ Ed ls a b (tb y.2 a b)) /\ (a = b -> tb y.2 a b = 0)) ?_ (fun y hy => ⟨⟨hy.1, fun a ha => (hy.2 a ha).1⟩, ⟨fun a b c ha hb hc => ((hy.2 a ha).2 b hb).1 c hc, fun a b ha hb => ((hy.2 a ha).2 b hb).2.1, fun a ha => ((hy.2 a ha).2 a ha).2.2 rfl⟩⟩)
  refine M.o_for N (fun i st => st.1 = i /\ st.2.length = i /\ ∀ a : Nat, a < i -> (st.2.getD a []).length = N /\ ∀ b : Nat, b < N -> (∀ c, Ed ls a b c -> tb st.2 a b <= c) /\ (tb st.2 a b = 1000000000000 ∨ (a = b /\ tb st.2 a b = 0) ∨ Ed ls a b (tb st.2 a b)) /\ (a = b -> tb st.2 a b = 0)) ?_ ?_ (s := (0, [])) ⟨rfl, rfl, fun b hb => by omega⟩
  · rintro i ⟨s, l⟩ hi ⟨e, hl, hJ⟩
    dsimp only at hi hl hJ e
    subst e
    simp only [m_nilometerref01_table_b21]
    refine M.o_t (decide_eq_true (by omega)) (M.o_bind (row s hi) ?_)
    rintro ⟨l2, l3⟩ ⟨r1, r2⟩
    dsimp only at r1 r2 ⊢
    refine M.o_grdD (by omega) (M.o_grd (gA2 (by omega) (by omega)) (M.o_pure ⟨rfl, by simp [hl], fun a ha => ?_⟩))
    dsimp only
    unfold tb
    by_cases e : a = s
    · have : (l ++ [l3]).getD a [] = l3 := by rw [e, ← hl]; simp [List.getD_eq_getElem?_getD]
      rw [this, e]
      exact ⟨r1, r2⟩
    · have : (l ++ [l3]).getD a [] = l.getD a [] := by rw [List.getD_eq_getElem?_getD, List.getElem?_append_left (by omega), ← List.getD_eq_getElem?_getD]
      rw [this]
      exact hJ a (by omega)
  · rintro ⟨s, l⟩ ⟨e, hl, hJ⟩
    dsimp only at hl hJ e
    subst e
    simp only [m_nilometerref01_table_b21]
    exact M.o_f (decide_eq_false (by omega)) (M.o_pure ⟨hl, hJ⟩)
theorem tab_out (hN : NetOk N ls) : (m_nilometerref01_table N ls).Out (fun y => ∃ T0, Ini N ls T0 /\ Rd3 N ls T0 N 0 0 y) := by
  have hm := hN.marks
  unfold m_nilometerref01_table
  refine M.o_bind (tab0_out hN) ?_
  rintro ⟨l5, l6⟩ ⟨hs, hi⟩
  dsimp only at hs hi ⊢
  refine M.o_bind (P := fun y => Rd3 N ls (tb l6) N 0 0 y.2) ?_ (fun y hy => M.o_pure ⟨_, hi, hy⟩)
  refine M.o_for N (fun i st => st.2 = i /\ Rd3 N ls (tb l6) i 0 0 st.1) ?_ ?_ (s := (l6, 0)) ⟨rfl, Rd3.start hN hi hs fun _ _ _ _ => rfl⟩
  · rintro k ⟨l, s⟩ hk ⟨e, hJ⟩
    dsimp only at hk hJ e
    subst e
    simp only [m_nilometerref01_table_b28]
    refine M.o_t (decide_eq_true (by omega)) (M.o_bind (P := fun y => Rd3 N ls (tb l6) s N 0 y.2) ?_ (fun y hy => M.o_grd (gA2 (by omega) (by omega)) (M.o_pure ⟨rfl, hy.rnd (by omega) hk⟩)))
    refine M.o_for N (fun i st => st.2 = i /\ Rd3 N ls (tb l6) s i 0 st.1) ?_ ?_ (s := (l, 0)) ⟨rfl, hJ⟩
    · rintro a ⟨l, a2⟩ ha ⟨e, hJ⟩
      dsimp only at ha hJ e
      subst e
      simp only [m_nilometerref01_table_b27]
      refine M.o_t (decide_eq_true (by omega)) (M.o_bind (P := fun y => Rd3 N ls (tb l6) s a2 N y.2) ?_ (fun y hy => M.o_grd (gA2 (by omega) (by omega)) (M.o_pure ⟨rfl, hy.row⟩)))
      refine M.o_for N (fun i st => st.2 = i /\ Rd3 N ls (tb l6) s a2 i st.1) ?_ ?_ (s := (l, 0)) ⟨rfl, hJ⟩
      · rintro b ⟨l, b2⟩ hb ⟨e, hJ⟩
        dsimp only at hb hJ e
        subst e
        have hu := hJ.up (by omega) hk ha hb
        have q0 := hJ.sq.len
        have q1 := hJ.sq.rows a2 ha
        have q2 := hJ.sq.rows s hk
        have b1 := hJ.lo a2 b2 ha hb
        have b3 := hJ.lo a2 s ha hk
        have b4 := hJ.lo s b2 hk hb
        unfold up at hu
        unfold tb at b1 b3 b4
        simp only [m_nilometerref01_table_b26]
        refine M.o_t (decide_eq_true (by omega)) (M.o_grdD (by omega) (M.o_grdD (by omega) (M.o_grd (gOr (by omega)) (M.o_grd (gOr (by omega)) (M.o_if (fun c => ?_) (fun c => ?_))))))
        · rw [Bool.and_eq_true, decide_eq_true_eq, decide_eq_true_eq] at c
          rw [if_pos (show tb l a2 s < 1000000000000 /\ tb l s b2 < 1000000000000 from c)] at hu
          exact M.o_grdD (by omega) (M.o_grdD (by omega) (M.o_grdD (by omega) (M.o_grd (gA2 (by omega) (by omega)) (M.o_grd (gA2 (by omega) (by omega)) (M.o_pure ⟨rfl, hu⟩)))))
        · rw [if_neg (show ¬ (tb l a2 s < 1000000000000 /\ tb l s b2 < 1000000000000) from fun h => by
            have : ((decide (((l.getD a2 []).getD s 0) < 1000000000000)) && (decide (((l.getD s []).getD b2 0) < 1000000000000))) = true := by rw [Bool.and_eq_true, decide_eq_true_eq, decide_eq_true_eq]; exact h
            rw [this] at c
            cases c)] at hu
          exact M.o_grd (gA2 (by omega) (by omega)) (M.o_pure ⟨rfl, hu⟩)
      · rintro ⟨l, b2⟩ ⟨e, hJ⟩
        dsimp only at hJ e
        subst e
        simp only [m_nilometerref01_table_b26]
        exact M.o_f (decide_eq_false (by omega)) (M.o_pure hJ)
    · rintro ⟨l, a2⟩ ⟨e, hJ⟩
      dsimp only at hJ e
      subst e
      simp only [m_nilometerref01_table_b27]
      exact M.o_f (decide_eq_false (by omega)) (M.o_pure hJ)
  · rintro ⟨l, s⟩ ⟨e, hJ⟩
    dsimp only at hJ e
    subst e
    simp only [m_nilometerref01_table_b28]
    exact M.o_f (decide_eq_false (by omega)) (M.o_pure hJ)
theorem ref_agrees (hN : NetOk n ls) : (m_nilometerref01_agrees n ls).Out (fun r => r = true ↔ Agr ls) := by
  have hm := hN.marks
  obtain ⟨N, rfl⟩ : ∃ N : Nat, n = N := ⟨n.toNat, by omega⟩
  unfold m_nilometerref01_agrees
  refine M.o_bind (tab_out hN) ?_
  rintro t ⟨T0, hI, hR⟩
  refine M.o_bind (P := fun y => match y with | .inl _ => ∃ x, x < N /\ tb t x x < 0 | .inr _ => ∀ x, x < N -> 0 <= tb t x x) ?_ ?_
  · refine M.o_for N (fun i s => s = i /\ ∀ x, x < i -> 0 <= tb t x x) ?_ ?_ (s := 0) ⟨rfl, fun x hx => by omega⟩
    · rintro i s hi ⟨rfl, hJ⟩
      have q0 := hR.sq.len
      have q1 := hR.sq.rows s hi
      simp only [m_nilometerref01_agrees_b0]
      refine M.o_t (decide_eq_true (by omega)) (M.o_grdD (by omega) (M.o_grdD (by omega) (M.o_if (fun c => ?_) (fun c => ?_))))
      · exact M.o_pure ⟨s, hi, of_decide_eq_true c⟩
      · refine M.o_pure ⟨rfl, fun x hx => ?_⟩
        by_cases e : x = s
        · subst e
          have := of_decide_eq_false c
          unfold tb
          omega
        · exact hJ x (by omega)
    · rintro s ⟨rfl, hJ⟩
      simp only [m_nilometerref01_agrees_b0]
      exact M.o_f (decide_eq_false (by omega)) (M.o_pure hJ)
  · rintro (u | u) hy
    · dsimp only at hy ⊢
      obtain ⟨x, hx, hn⟩ := hy
      refine M.o_pure ⟨fun h => (by cases h), ?_⟩
      rintro ⟨h, hF⟩
      have := hR.sd h hF x x hx hx (by omega)
      omega
    · dsimp only at hy ⊢
      refine M.o_pure ⟨fun _ => ?_, fun _ => rfl⟩
      rcases hR.go with ⟨x, hx, hn⟩ | ⟨T, hT, hp, hE⟩
      · have := hy x hx; omega
      · refine hT.feas (by omega) hN.rng (fun a b c he => ?_) (fun a b c he => (hN.ed a b c he).2) fun a ha => ?_
        · have hr := he.rng hN.rng
          exact hI.le a b c (by omega) (by omega) he
        · have := hE a a ha ha
          rw [if_neg (by omega)] at this
          rw [← this]
          exact hR.dg a ha
end Go.Proofs.Ytclhljenjphofaa
namespace Go.Nm
variable {ls : List Line} {N : Nat}
/-- What the table says when all marks were gone through, of a net that agrees. -/
structure TabOk (N : Nat) (ls : List Line) (l : List (List Int)) : Prop where
  sq : Sq N l
  far : ∀ x y : Nat, x < N -> y < N -> ¬ Tied ls x y -> tb l x y = 1000000000000
  near : ∀ x y : Nat, x < N -> y < N -> Tied ls x y -> tb l x y < 1000000000000 /\ IsDist ls x y (tb l x y)
theorem Rd3.tab {T0 : Nat -> Nat -> Int} {l : List (List Int)} (hN : NetOk N ls) (hI : Ini N ls T0) (h : Rd3 N ls T0 N 0 0 l) (hA : Agr ls) : TabOk N ls l := by
  have hm := hN.marks
  obtain ⟨f, hF⟩ := hA
  have nn : ∀ x, x < N -> 0 <= tb l x x := fun x hx => by
    have h1 := h.dg x hx
    have := h.sd f hF x x hx hx (by omega)
    omega
  rcases h.go with ⟨x, hx, hn⟩ | ⟨T, hT, -, hE⟩
  · have := nn x hx; omega
  · have hE' : ∀ x y, x < N -> y < N -> tb l x y = T x y := fun x y hx hy => by rw [hE x y hx hy, if_neg (by omega)]
    have step : ∀ x : Nat, x < N -> ∀ {vs : List Int} {c : Int}, Wk ls x vs c -> c <= 1010000 * (vs.length : Int) - 1010000 /\ (vs.length <= 1000 -> ∀ y : Nat, vs.head? = some (y : Int) -> y < N -> T x y <= c) := by
      intro x hx vs c w
      refine ⟨(w.size hN.ed).2, ?_⟩
      induction w with
      | one =>
        intro _ y hy _
        simp only [List.head?_cons, Option.some.injEq] at hy
        have : y = x := by omega
        rw [this, ← hE' x x hx hx]
        exact h.dg x hx
      | @snoc m b vs c e w he ih =>
        intro hlen y hy hyN
        simp only [List.head?_cons, Option.some.injEq] at hy
        subst hy
        have hr := he.rng hN.rng
        obtain ⟨m, rfl⟩ : ∃ k : Nat, m = k := ⟨m.toNat, by omega⟩
        have hmN : m < N := by omega
        rw [List.length_cons] at hlen
        have i1 := ih (by omega) m rfl hmN
        have i2 := (w.size hN.ed).2
        have i3 := hT.le m y hmN hyN
        have i4 := hI.le m y e hmN hyN he
        have i5 := hN.ed _ _ _ he
        have := hT.cl x y m hx hyN hmN hmN (by omega) (by omega)
        omega
    refine ⟨h.sq, fun x y hx hy ht => ?_, fun x y hx hy ht => ?_⟩
    · have := (h.lo x y hx hy).2
      exact Classical.byContradiction fun hc => ht (h.td x y hx hy (by omega))
    · obtain ⟨d, hD⟩ := dist_ex hF ht
      obtain ⟨vs, w⟩ := hD.has
      obtain ⟨vs', c', w', h1, -, h2⟩ := w.few (n := N) hF hN.rng (by omega)
      obtain ⟨s1, s2⟩ := step x hx w'
      have h3 := hD.le _ _ w'
      have h4 := s2 (by rw [List.length_cons]; omega) y rfl hy
      rw [List.length_cons] at s1
      have lt : tb l x y < 1000000000000 := by rw [hE' x y hx hy]; omega
      obtain ⟨g, hG, e⟩ := dist_cert ⟨f, hF⟩ hD
      have h5 := h.sd g hG x y hx hy lt
      have : tb l x y = d := by rw [hE' x y hx hy] at h5 ⊢; omega
      exact ⟨lt, by rw [this]; exact hD⟩
end Go.Nm
namespace Go.Nm
structure SOk (c u x : Int) : Prop where
  u0 : 0 <= u
  u1 : u <= c
  x0 : 0 <= x
  x1 : x < 251
theorem SOk.mono {c d u x : Int} (h : SOk c u x) (hd : c <= d) : SOk d u x := ⟨h.u0, Int.le_trans h.u1 hd, h.x0, h.x1⟩
/-- What a stream gives: a number below n. -/
structure Nx (c n : Int) (y : Int × Int × Int) : Prop where
  ok : SOk c y.2.1 y.2.2
  lt : 1 <= n -> 0 <= y.1 /\ y.1 < n
  no : n < 1 -> y.1 = 0
end Go.Nm
namespace Go.Proofs.Ytclhljenjphofaa
open Go Go.Nm
end Go.Proofs.Ytclhljenjphofaa
namespace Go.Nm
def hOf (hs : List Int) (v : Int) : Int := hs.getD (Int.toNat v) 0
structure LnOk (n : Int) (hs : List Int) (l : Line) : Prop where
  src : 0 <= l.src /\ l.src < n
  dst : 0 <= l.dst /\ l.dst < n
  ne : l.src ≠ l.dst
  day : 0 <= l.day /\ l.day < 30
  err : 0 <= l.err /\ l.err <= 8
  lo : l.rise - l.err <= hOf hs l.dst - hOf hs l.src
  hi : hOf hs l.dst - hOf hs l.src <= l.rise + l.err
structure HsOk (n : Int) (hs : List Int) : Prop where
  len : (hs.length : Int) = n
  zero : hs.getD 0 0 = 0
  bnd : ∀ v, -300 <= hOf hs v /\ hOf hs v <= 300
/-- What a net of numbers is like. -/
structure MadeN (most n : Int) (ls : List Line) (hs : List Int) : Prop where
  two : 2 <= n /\ n <= most
  hh : HsOk n hs
  one : 1 <= ls.length /\ ls.length <= 14
  ln : ∀ l, l ∈ ls -> LnOk n hs l
theorem LnOk.rise {n : Int} {hs : List Int} {l : Line} (h : LnOk n hs l) (hh : HsOk n hs) : -700 <= l.rise /\ l.rise <= 700 := by
  have h1 := hh.bnd l.src
  have h2 := hh.bnd l.dst
  have := h.err
  have := h.lo
  have := h.hi
  omega
theorem net_ok {most n : Int} {ls : List Line} {hs : List Int} (hm : 1 <= n /\ n <= 12) (hh : HsOk n hs) (hl : ls.length <= 30) (h : ∀ l, l ∈ ls -> LnOk n hs l) : NetOk n ls :=
  ⟨hm, hl, fun l hl => ⟨(h l hl).src, (h l hl).dst⟩, fun l hl => (h l hl).ne, fun l hl => by have := (h l hl).day; omega, fun l hl => by have := (h l hl).rise hh; omega, fun l hl => by have := (h l hl).err; omega⟩
theorem feas_ln {n : Int} {ls : List Line} {hs : List Int} (h : ∀ l, l ∈ ls -> LnOk n hs l) : Feas ls (hOf hs) := fun l hl => ⟨(h l hl).lo, (h l hl).hi⟩
theorem MadeN.ok {most n : Int} {ls : List Line} {hs : List Int} (h : MadeN most n ls hs) (hm : most <= 12) : NetOk n ls := net_ok (most := 0) (by have := h.two; omega) h.hh (by have := h.one; omega) h.ln
theorem MadeN.agr {most n : Int} {ls : List Line} {hs : List Int} (h : MadeN most n ls hs) : Agr ls := ⟨_, feas_ln h.ln⟩
end Go.Nm
namespace Go.Proofs.Ytclhljenjphofaa
open Go Go.Nm
theorem copy_net {ls : List Line} (h : ls.length <= 1000000) (n : Int) : (m_nilometerlaw01_CopyNet n ls).Ends (n, ls) := by
  unfold m_nilometerlaw01_CopyNet m_nilometerkit_Copy_level_Line
  exact M.i_bind (M.i_grd (decide_eq_true (by simp only [List.length_nil]; omega)) M.i_pure) M.i_pure
end Go.Proofs.Ytclhljenjphofaa
namespace Go.Nm
variable {ls ms : List Line} {n : Int}
/-- Heights that are returned. -/
structure HtOk (n : Int) (ls : List Line) (l : List Int) : Prop where
  len : (l.length : Int) = n
  feas : Feas ls (hOf l)
  zero : l.getD 0 0 = 0
  bnd : ∀ v, 0 <= v -> v < n -> -100000000 <= hOf l v /\ hOf l v <= 100000000
end Go.Nm
namespace Go.Proofs.Ytclhljenjphofaa
open Go Go.Nm
variable {ls ms : List Line} {n : Int}
theorem agreed_out (hN : NetOk n ls) : (m_level_agreed n ls).Out (fun y => ∃ can by_ e, y = .inr (n, can, by_, e) /\ Wkd ls n can by_ /\ (¬ Agr ls -> e = 7) /\ (Agr ls -> e = 0)) := by
  unfold m_level_agreed
  refine M.o_bind (opened_out hN) ?_
  rintro y ⟨c, b, rfl, hW⟩
  dsimp only
  refine M.o_bind (P := fun r => r = true ↔ ¬ Agr ls) (by
    obtain ⟨r, h1, h2⟩ := open_out hN hW
    exact ⟨r, M.i_opt (fun _ => h1) (fun h => by simp at h), h2⟩) ?_
  intro r hr
  cases r with
  | true => exact M.o_t rfl (M.o_pure ⟨c, b, 7, rfl, hW, fun _ => rfl, fun h => absurd h (hr.1 rfl)⟩)
  | false => exact M.o_f rfl (M.o_pure ⟨c, b, 0, rfl, hW, fun h => absurd (hr.2 h) (by decide), fun _ => rfl⟩)
end Go.Proofs.Ytclhljenjphofaa
namespace Go.Proofs.Ytclhljenjphofaa
open Go Go.Nm
set_option maxRecDepth 100000 in
theorem awake_ends : (m_nilometerlaw01_awake).Ends true := ⟨300, by kernel_rfl⟩
end Go.Proofs.Ytclhljenjphofaa
namespace Go.Nm
variable {ls : List Line} {n : Int}
end Go.Nm
namespace Go.Proofs.Ytclhljenjphofaa
open Go Go.Nm
variable {ls : List Line} {n : Int}
theorem net_ends (n : Int) (h : ls.length <= 1000000) : (m_nilometerlaw01_Net n ls).Ends (n, ls) := by
  have out : (m_nilometerlaw01_Net n ls).Out (fun r => r = (n, ls)) := by
    unfold m_nilometerlaw01_Net
    refine M.o_bind (P := fun y => y.2 = ls) ?_ (fun y hy => M.o_pure (by rw [hy]))
    refine M.o_for ls.length (fun i st => st.1 = i /\ st.2 = ls.take i) ?_ ?_ (s := (0, [])) ⟨rfl, by simp⟩
    · rintro i ⟨s, l⟩ hi ⟨e1, e2⟩
      dsimp only at hi e1 e2
      subst e1
      subst e2
      simp only [m_nilometerlaw01_Net_b0]
      refine M.o_t (by simpa using hi) (M.o_grd (by simpa using hi) (M.o_grdD (by simp [List.length_take]; omega) (M.o_pure ⟨rfl, ?_⟩)))
      dsimp only
      rw [take_succ_D ls s hi default]
    · rintro ⟨s, l⟩ ⟨e1, e2⟩
      dsimp only at e1 e2
      subst e1
      subst e2
      simp only [m_nilometerlaw01_Net_b0]
      exact M.o_f (by simp) (M.o_pure (List.take_length ..))
  obtain ⟨r, h, rfl⟩ := out
  exact h
theorem same_line (ls : List Line) : (m_nilometerkit_Same_level_Line ls ls).Ends true := by
  have out : (m_nilometerkit_Same_level_Line ls ls).Out (fun r => r = true) := by
    unfold m_nilometerkit_Same_level_Line
    refine M.o_f (by simp) (M.o_bind (P := fun y => y = .inr ()) ?_ (fun y hy => by subst hy; exact M.o_pure rfl))
    refine M.o_for ls.length (fun i st => st = i) ?_ ?_ rfl
    · rintro i s hi rfl
      simp only [m_nilometerkit_Same_level_Line_b0]
      exact M.o_t (by simpa using hi) (M.o_grd (by simpa using hi) (M.o_grd (by simpa using hi) (M.o_f (by simp) (M.o_pure rfl))))
    · rintro s rfl
      simp only [m_nilometerkit_Same_level_Line_b0]
      exact M.o_f (by simp) (M.o_pure rfl)
  obtain ⟨r, h, rfl⟩ := out
  exact h
theorem same_net (n : Int) (ls : List Line) : (m_nilometerlaw01_same n ls n ls).Ends true := by
  unfold m_nilometerlaw01_same
  refine M.i_bind (a := true) (M.i_opt (fun _ => same_line ls) (fun h => by simp at h)) ?_
  simp only [beq_self_eq_true, Bool.and_self]
  exact M.i_pure
theorem opened_bad (h : chkE n ls ≠ 0) : (m_level_opened n ls).Ends (.inl (chkE n ls)) := by
  unfold m_level_opened
  exact M.i_bind (check_ends n ls) (M.i_t (by rw [bne_iff_ne]; exact h) M.i_pure)
/-- Both say the same of a net. -/
theorem agrees_both (hl : ls.length <= 1000000) : ∃ b e, (m_level_Agrees n ls).Ends (b, e) /\ (m_nilometerref01_Agrees n ls).Ends (b, e) /\ (chkE n ls ≠ 0 -> b = false /\ e = chkE n ls) /\ (chkE n ls = 0 -> e = 0 /\ (b = true ↔ Agr ls)) := by
  by_cases h : chkE n ls = 0
  · have hN := chk_ok.1 h
    obtain ⟨⟨b, e⟩, h1, h2, h3⟩ := agrees_out hN
    obtain ⟨b', h4, h5⟩ := ref_agrees hN
    dsimp only at h2 h3
    subst h2
    have : b' = b := by
      rw [Bool.eq_iff_iff, h5, h3]
    subst this
    refine ⟨b', 0, h1, ?_, fun h' => absurd h h', fun _ => ⟨rfl, h3⟩⟩
    unfold m_nilometerref01_Agrees
    refine M.i_bind (ref_check n ls hl) ?_
    rw [h]
    exact M.i_f rfl (M.i_bind h4 M.i_pure)
  · refine ⟨false, chkE n ls, ?_, ?_, fun _ => ⟨rfl, rfl⟩, fun h' => absurd h' h⟩
    · unfold m_level_Agrees
      exact M.i_bind (opened_bad h) (M.i_t (by rw [bne_iff_ne]; exact h) M.i_pure)
    · unfold m_nilometerref01_Agrees
      exact M.i_bind (ref_check n ls hl) (M.i_t (by rw [bne_iff_ne]; exact h) M.i_pure)
end Go.Proofs.Ytclhljenjphofaa
